/- Layer 6: where a play's world lies in memory; the methods of loom.World. -/
import Derived.Test.YtifhldnmcdbpfaaW05
import Derived.Laws.EntriesVeiled
import Derived.Test.YtifhldnmcdbpfaaW04
import Derived.Deep.RegionHeld3
set_option maxRecDepth 100000
set_option linter.unusedVariables false
set_option linter.unusedSimpArgs false
set_option linter.unnecessarySimpa false
namespace Go.Proofs.Ytifhldnmcdbpfaa
section
open Go.RowKit
def Lst (w:World) (Mut:Nat->Prop) (v:Value) (l:List Int):Prop:=
 ∃ a c,v=.slice a l.length c/\(l=[]->v=.slice none 0 0)/\bS w a l.length 1 (gQ l)/\(∀ b off,a=some ⟨b,off,none⟩->¬ Mut b)
def jK (w:World) (Mut:Nat->Prop) (v:Value) (l:List Nat):Prop:=
 ∃ a c,v=.slice a l.length c/\bS w a l.length 1 (oV l)/\(0<l.length->∀ b off,a=some ⟨b,off,none⟩->¬ Mut b)
def aV (Mut:Nat->Prop) (w:World) (Mut':Nat->Prop):Prop:=∀ b,Mut' b->Mut b∨w.heap.size<=b
theorem aV.refl (Mut:Nat->Prop) (w:World):aV Mut w Mut:=λ_ h=>.inl h
theorem aV.trans {Mut Mut' Mut'':Nat->Prop} {w w':World} (h:aV Mut w Mut') (h':aV Mut' w' Mut'') (hs:w.heap.size<=w'.heap.size):aV Mut w Mut'':=
 λb x=>by rcases h' b x with y|y;exact h b y;exact .inr (Nat.le_trans hs y)
theorem bS.lt {w:World} {a:Option Addr} {n k:Nat} {g:Nat->Nat->Value} (h:bS w a n k g) (hn:0<n):∃ b off,a=some ⟨b,off,none⟩/\b<w.heap.size:=by
 obtain⟨b,off,h1,h2,_⟩:=h.2 0 hn
 exact⟨b,off,h1,h2⟩
theorem Lst.nil (w:World) (Mut:Nat->Prop):Lst w Mut (.slice none 0 0) []:=⟨none,0,rfl,λ_=>rfl,bS.nil _ _ _ _,λ_ _ h=>by cases h⟩
theorem Lst.keep {w w':World} {S Mut Mut':Nat->Prop} {v:Value} {l:List Int} (h:Lst w Mut v l) (hc:Chg S w w') (hS:∀ b,S b->Mut b) (hm:aV Mut w Mut'):Lst w' Mut' v l:=by
 obtain⟨a,c,h1,h2,h3,h4⟩:=h
 rcases Nat.eq_zero_or_pos l.length with h0|h0
 ·have:=h2 (List.eq_nil_of_length_eq_zero h0)
  obtain rfl:=List.eq_nil_of_length_eq_zero h0
  rw [this];exact Lst.nil _ _
 ·obtain⟨b0,yO,e0,hb0⟩:=h3.lt h0
  refine⟨a,c,h1,h2,h3.chg hc (λb off e hs=>h4 b off e (hS b hs)),λb off e hs=>?_⟩
  rw [e0] at e;cases e
  rcases hm b0 hs with h|h
  ·exact h4 b0 yO e0 h
  ·omega
theorem jK.nil (w:World) (Mut:Nat->Prop):jK w Mut (.slice none 0 0) []:=⟨none,0,rfl,bS.nil _ _ _ _,λ_ _ _ h=>by cases h⟩
theorem jK.keep {w w':World} {S Mut Mut':Nat->Prop} {v:Value} {l:List Nat} (h:jK w Mut v l) (hc:Chg S w w') (hS:∀ b,S b->Mut b) (hm:aV Mut w Mut'):jK w' Mut' v l:=by
 obtain⟨a,c,h1,h3,h4⟩:=h
 rcases Nat.eq_zero_or_pos l.length with h0|h0
 ·exact⟨a,c,h1,by rw [h0];exact bS.nil _ _ _ _,λh=>by omega⟩
 ·obtain⟨b0,yO,e0,hb0⟩:=h3.lt h0
  refine⟨a,c,h1,h3.chg hc (λb off e hs=>h4 h0 b off e (hS b hs)),λ_ b off e hs=>?_⟩
  rw [e0] at e;cases e
  rcases hm b0 hs with h|h
  ·exact h4 h0 b0 yO e0 h
  ·omega
theorem Lst.of_row {w w':World} {Mut:Nat->Prop} {v:Value} {l:List Int} {B:Nat} (h:w'.ownsRow B 3 1 v l.length (l.map (Value.int .i64))) (hB:w.heap.size<=B) (hm:∀ b,Mut b->b<w.heap.size) (hl:l.length<=1000000000) (hn:l=[]->v=.slice none 0 0):Lst w' Mut v l:=by
 obtain⟨a,c,rfl⟩:=iM h
 obtain⟨h1,h2⟩:=IQ h (by unfold maxLen;omega) (g:=gQ l) (λj hj=>by simp [gQ,List.getD_eq_getElem?_getD,hj])
 exact⟨a,c,rfl,hn,h1,λb off e hs=>by have:=h2 b off e;have:=hm b hs;omega⟩
def mO (bm now:Nat) (inv:List Nat) (mks:List Value) (bt:Nat):List Value:=.pointer (some ⟨bm,0,none⟩)::.int .i64 (now:Int)::(inv.map fG++(mks++[.map (some bt)]))
def bF (bm now:Nat) (inv:List Nat) (mks:List Value) (bt:Nat):Array Value:=(mO bm now inv mks bt).toArray
structure dG where
 bW:Nat
 bm:Nat
 bt:Nat
 bw:Option Nat
def aW (I:dG) (b:Nat):Prop:=b=I.bW∨b=I.bm∨b=I.bt∨some b=I.bw
structure aM (w:World) (Mut:Nat->Prop) (I:dG) (N:Nat) (wd:WD):Prop where
 blk:∃ mks:List Value,w.heap[I.bW]?=some (.cells (bF I.bm wd.now wd.inv mks I.bt) 121 (0,0))/\mks.length=16/\∀ p,p<16->Lst w Mut (mks.getD p undef) (wd.marks.getD p [])
 inv16:wd.inv.length=16
 mk16:wd.marks.length=16
 mem:cB w I.bm I.bw wd.mem
 tr:∃ n M,MapAt w I.bt n M/\n<=N/\∀ key,Lst w Mut (M key) (wd.traces key)
 sep:I.bW≠I.bm/\I.bW≠I.bt/\I.bm≠I.bt/\I.bw≠some I.bW/\I.bw≠some I.bt
 muts:∀ b,aW I b->Mut b
 low:∀ b,Mut b->b<w.heap.size
 nowlt:wd.now<1000000000
 nlt:N<1000000000
theorem aM.wlt {w:World} {Mut:Nat->Prop} {I:dG} {N:Nat} {wd:WD} (h:aM w Mut I N wd):I.bW<w.heap.size:=by obtain⟨_,h1,_⟩:=h.blk;exact aC h1
theorem aM.keep {w w':World} {S Mut Mut':Nat->Prop} {I:dG} {N:Nat} {wd:WD} (h:aM w Mut I N wd) (hc:Chg S w w') (hS:∀ b,S b->Mut b) (hW:∀ b,S b->¬ aW I b) (hm:aV Mut w Mut') (hl:∀ b,Mut' b->b<w'.heap.size) (hWm:∀ b,aW I b->Mut' b):aM w' Mut' I N wd:=by
 obtain⟨⟨mks,h1,h2,h3⟩,h4,h5,h6,⟨n,M,h7,h8,h9⟩,h10,h11,h12,h13,h14⟩:=h
 have nS:∀ b,aW I b->¬ S b:=λb hb hs=>hW b hs hb
 exact⟨⟨mks,(hc.block _ (aC h1) (nS _ (.inl rfl))).trans h1,h2,λp hp=>(h3 p hp).keep hc hS hm⟩,h4,h5,h6.chg hc (nS _ (.inr (.inl rfl))) (λq e=>nS _ (.inr (.inr (.inr e.symm)))),⟨n,M,h7.block (hc.block _ h7.lt (nS _ (.inr (.inr (.inl rfl))))),h8,λk=>(h9 k).keep hc hS hm⟩,h10,hWm,hl,h13,h14⟩
theorem eO {bm now:Nat} {inv:List Nat} {mks:List Value} {bt:Nat}:(bF bm now inv mks bt)[1]?=some (.int .i64 (now:Int)):=rfl
theorem iV {bm now:Nat} {inv:List Nat} {mks:List Value} {bt:Nat}:(bF bm now inv mks bt)[0]?=some (.pointer (some ⟨bm,0,none⟩)):=rfl
theorem uT {bm now:Nat} {inv:List Nat} {mks:List Value} {bt p:Nat} (hi:inv.length=16) (hp:p<16):(bF bm now inv mks bt)[2+p]?=some (.int .i64 ((inv.getD p 0:Nat):Int)):=by
 have hp':p<inv.length:=by omega
 simp [bF,mO,Nat.add_comm 2 p,fG,List.getD_eq_getElem?_getD,List.getElem?_append,hp']
theorem kD {bm now:Nat} {inv:List Nat} {mks:List Value} {bt p:Nat} (hi:inv.length=16) (hm:mks.length=16) (hp:p<16):(bF bm now inv mks bt)[18+p]?=some (mks.getD p undef):=by
 have hp':p<mks.length:=by omega
 simp [bF,mO,show 18+p=(p+16)+1+1 by omega,List.getD_eq_getElem?_getD,List.getElem?_append,hi,hp']
theorem wJ {bm now:Nat} {inv:List Nat} {mks:List Value} {bt:Nat} (hi:inv.length=16) (hm:mks.length=16):(bF bm now inv mks bt)[34]?=some (.map (some bt)):=by
 simp [bF,mO,hi,hm]
theorem tY {bm now now':Nat} {inv:List Nat} {mks:List Value} {bt:Nat}:(bF bm now inv mks bt).setIfInBounds 1 (.int .i64 (now':Int))=bF bm now' inv mks bt:=by
 simp [bF,mO]
theorem uA {bm now v:Nat} {inv:List Nat} {mks:List Value} {bt p:Nat} (hi:inv.length=16) (hp:p<16):(bF bm now inv mks bt).setIfInBounds (2+p) (.int .i64 (v:Int))=bF bm now (inv.set p v) mks bt:=by
 have hp':p<inv.length:=by omega
 simp [bF,mO,Nat.add_comm 2 p,fG,hp',List.map_set]
theorem sD {bm now:Nat} {v:Value} {inv:List Nat} {mks:List Value} {bt p:Nat} (hi:inv.length=16) (hm:mks.length=16) (hp:p<16):(bF bm now inv mks bt).setIfInBounds (18+p) v=bF bm now inv (mks.set p v) bt:=by
 have hp':p<mks.length:=by omega
 simp [bF,mO,show 18+p=(p+16)+1+1 by omega,hi,hp']
theorem KD (w:World) (Mut:Nat->Prop) (I:dG) (N:Nat) (wd:WD) (p:Nat) (h:aM w Mut I N wd) (hp:p<16) :
  Calls Try.prog 136 #[.pointer (some ⟨I.bW,0,none⟩),.int .i64 (p:Int)] w λe w'=>e=.returned (.int .i64 ((wd.inv.getD p 0:Nat):Int))/\w=w':=by
 obtain⟨mks,hb,hm,_⟩:=h.blk
 obtain⟨x,hx⟩:∃ x,x=wd.inv.getD p 0:=⟨_,rfl⟩
 have c0:w.cell? ⟨I.bW,2+p,none⟩=some (.int .i64 (x:Int)):=by rw [aA hb,uT h.inv16 hp,hx]
 rw [<-hx]
 have hp2:(p:Int)<16:=by omega
 clear h hb hx
 go_enter Try.func136,Try.ntmps136
 go_wp2
 go_ret
 exact⟨rfl,rfl⟩
theorem yU (w:World) (Mut:Nat->Prop) (I:dG) (N:Nat) (wd:WD) (h:aM w Mut I N wd) :
  Calls Try.prog 81 #[.pointer (some ⟨I.bW,0,none⟩)] w λe w'=>e=.returned (.slice (some ⟨w.heap.size,0,none⟩) 1 1)/\Lst w' Mut (.slice (some ⟨w.heap.size,0,none⟩) 1 1) (jF wd)/\Below w.heap.size w w':=by
 obtain⟨mks,hb,hm,_⟩:=h.blk
 obtain⟨x,hx⟩:∃ x:Nat,x=wd.now:=⟨_,rfl⟩
 have c0:w.cell? ⟨I.bW,1,none⟩=some (.int .i64 (x:Int)):=by rw [aA hb,eO,hx]
 have hl:=h.nowlt
 rw [<-hx] at hl
 have hk:jF wd=[2*(x:Int)]:=by unfold jF;rw [hx]
 have hlst:Lst (w.alloc (.cells #[.int .i64 (2*(x:Int))] 3)) Mut (.slice (some ⟨w.heap.size,0,none⟩) 1 1) (jF wd):=by
  rw [hk]
  refine⟨_,_,rfl,(λh=>by cases h),⟨by unfold maxLen;simp,λj hj=>⟨_,_,rfl,by simp,λf hf=>?_⟩⟩,λb off e hs=>?_⟩
  ·obtain rfl:f=0:=by omega
   obtain rfl:j=0:=by simpa using hj
   rw [dZ];rfl
  ·cases e;have:=h.low _ hs;omega
 have Hl:=Lib.hid hlst
 clear h hb hx hk hlst
 go_enter Try.func81,Try.ntmps81
 go_wp2
 go_ret
 exact⟨rfl,Hl.out,Gr.new _ _⟩
theorem EU (w:World) (Mut:Nat->Prop) (I:dG) (N:Nat) (wd:WD) (a:Int) (h:aM w Mut I N wd) (ha:(Lit.int .i64 a).wf=true) :
  Calls Try.prog 168 #[.pointer (some ⟨I.bW,0,none⟩),.int .i64 a] w λe w'=>(∃ v,e=.returned v/\Lst w Mut v (wd.traces a))/\w=w':=by
 obtain⟨mks,hb,hm,_⟩:=h.blk
 obtain⟨n,M,h1,_,h3⟩:=h.tr
 have c0:w.cell? ⟨I.bW,34,none⟩=some (.map (some I.bt)):=by rw [aA hb,wJ h.inv16 hm]
 have hlk:=h1.look ha
 have H3:=Lib.hid (h3 a)
 clear h hb h1 h3
 go_enter Try.func168,Try.ntmps168
 go_wp2
 go_ret
 exact⟨⟨_,rfl,H3.out⟩,rfl⟩
theorem wI {w w':World} {Mut:Nat->Prop} {v:Value} {l:List Int} (h:w'.ownsRow w.heap.size 3 1 v l.length ((List.range l.length).map λj=>gQ l j 0)) (hm:∀ b,Mut b->b<w.heap.size) (hl:l.length<=1000000000) (hn:l≠[]):Lst w' Mut v l:=by
 refine Lst.of_row (B:=w.heap.size) ?_ (Nat.le_refl _) hm hl (λe=>absurd e hn)
 have e1:(List.range l.length).map (λj=>gQ l j 0)=l.map (Value.int .i64):=by
  apply List.ext_getElem
  ·simp
  ·intro i h1 h2
   simp at h1 h2
   simp [gQ,List.getD_eq_getElem?_getD,h2]
 rw [e1] at h
 exact h
def tV (t:Int->List Int) (a:Int) (l:List Int):Int->List Int:=λx=>if x=a then l else t x
theorem FW (w:World) (Mut:Nat->Prop) (I:dG) (N:Nat) (wd:WD) (k:Int) (a:Option Addr) (c:Nat) (l:List Int) (h:aM w Mut I N wd) (hk:(Lit.int .i64 k).wf=true) (hs:bS w a l.length 1 (gQ l)) (hl:l.length<=1000000) (hn:l≠[]) (hc:a=none->c=0) (hN:N+1<1000000000) :
  Calls Try.prog 178 #[.pointer (some ⟨I.bW,0,none⟩),.int .i64 k,.slice a l.length c] w λe w'=>e=.returned (.tuple #[])/\aM w' Mut I (N+1) { wd with traces:=tV wd.traces k l }/\Chg (aW I) w w':=by
 have C:=Lib.hid (λ(u:World) (hb:Below w.heap.size w u)=>EW a l.length c (gQ l) u (hs.grown hb) (λj=>rfl) (by omega) hc)
 obtain⟨mks,hb,hm,hmk⟩:=h.blk
 obtain⟨n,M,h7,h8,h9⟩:=h.tr
 have c0:w.cell? ⟨I.bW,34,none⟩=some (.map (some I.bt)):=by rw [aA hb,wJ h.inv16 hm]
 have hwl:=h.wlt
 have hne:I.bW≠I.bt:=h.sep.2.1
 have Hmap:=Lib.hid (λ(u:World) (hb:Below w.heap.size w u)=>h7.block (hb.block _ h7.lt))
 have hn1:n<maxLen:=by have:=h.nlt;unfold maxLen;omega
 have Hfin:=Lib.hid (λ(u u2:World) (v:Value) (hr:u.ownsRow w.heap.size 3 1 v l.length ((List.range l.length).map λj=>gQ l j 0)) (hbu:Below w.heap.size w u) (hm2:MapAt u2 I.bt (n+1) (upd M k v)) (hg:u.grownBy u2 (some I.bt))=>
  (show aM u2 Mut I (N+1) { wd with traces:=tV wd.traces k l }/\Chg (aW I) w u2 from by
   have wV:Chg (aW I) u u2:=(Chg.refl (aW I) u).grown hg (λq e=>by cases e;exact .inl (.inr (.inr (.inl rfl))))
   have hch:Chg (aW I) w u2:=(Chg.of_below hbu).trans wV
   have hlu:Lst u2 Mut v l:=(wI hr h.low (by omega) hn).keep (S:=aW I) (Mut:=Mut) wV h.muts (aV.refl _ _)
   refine⟨⟨⟨mks,?_,hm,λq hq=>(hmk q hq).keep hch h.muts (aV.refl _ _)⟩,h.inv16,h.mk16,?_,⟨n+1,_,hm2,by omega,λx=>?_⟩,h.sep,h.muts,λb hb=>Nat.lt_of_lt_of_le (h.low b hb) hch.size,h.nowlt,hN⟩,hch⟩
   ·rw [hg.block _ (Nat.lt_of_lt_of_le hwl hbu.size) (by simpa using hne),hbu.block _ hwl];exact hb
   ·refine(h.mem.gr hbu).chg (S:=λb=>b=I.bt) ((Chg.refl (λb=>b=I.bt) u).grown hg (λq e=>by cases e;exact .inl rfl)) (λe=>h.sep.2.2.1 e) (λq e1 e2=>h.sep.2.2.2.2 (by rw [e1,e2]))
   ·by_cases hx:x=k
    ·subst hx
     rw [upd_same];simp only [tV,if_true];exact hlu
    ·rw [iG _ _ hx];simp only [tV,if_neg hx];exact(h9 x).keep hch h.muts (aV.refl _ _)))
 clear h hb hmk hs hc hl hn h7 h9
 go_enter Try.func178,Try.ntmps178
 go_region_held3 (λu=>u.cell? ⟨I.bW,34,none⟩=some (.map (some I.bt)))
  (first|exact c0|exact c1|exact(hg4.cell_far _ (Nat.lt_of_lt_of_le hwl hbb.size) (by simpa using hne)).trans c1)
  ((go_at_call 179;refine(C.out _ ?_).mono ?_;(exact(Gr.refl _).drew);rintro e w1 ⟨v,rfl,ho,hbb,_⟩;obtain⟨va,vc,rfl⟩:=iM ho;replace hbb:=rO hbb;have c1:=(hbb.cell (p:=⟨I.bW,34,none⟩) hwl).trans c0;obtain⟨w4,hrun,NE,hg4⟩:=(Hmap.out _ hbb).put hn1 hk (.slice va l.length vc)))
 have Hf:=Lib.hid (Hfin.out _ _ _ ho hbb NE hg4)
 clear ho hbb NE hg4
 go_wp2
 go_end0
 exact⟨rfl,Hf.out⟩
end
section
open Go.RowKit
structure lK (T:TypeId) (x:Value) (name:String) (K:FuncId) (recv:Value):Prop where
 ahead:∀(F:Nat) (w:World),(nilAhead (F+1) T x name).run Try.prog w=.ok (some false) w
 meth:∀(F:Nat) (w:World),(method (F+1) T x name).run Try.prog w=.ok (K,recv) w
 enter:∀(args:Array Value) (w:World),(callFunc K args).run Try.prog w=.ok (.enter K args) w
theorem yM (a : Addr) : lK 181 (.pointer (some a)) "Step" 138 (.pointer (some a)) := ⟨fun _ _ => by kernel_rfl, fun _ _ => by kernel_rfl, fun _ _ => by kernel_rfl⟩
theorem tZ (a : Addr) : lK 181 (.pointer (some a)) "Answer" 137 (.pointer (some a)) := ⟨fun _ _ => by kernel_rfl, fun _ _ => by kernel_rfl, fun _ _ => by kernel_rfl⟩
def mD (er:Int) (vl:Nat) (lv:Value):Value:=.agg #[.int .i64 er,.int .u64 (vl:Int),lv]
def gN (K:FuncId) (cap:Array Value) (er:Int) (vl:Nat):Array Value:=#[.func (.func K) #[] cap,.int .i64 er,.int .u64 (vl:Int),.slice none 0 0]
def HZ (b K:Nat) (cap:Array Value) (Q:Int->Nat->World->Prop) (e:Ending) (w':World):Prop:=
 e=.returned (.bool true)/\∃ er vl w1,Q er vl w1/\w'.heap[b]?=some (.cells (gN K cap er vl) 183 (0,0))/\Chg (λk=>k=b) w1 w'
def AV (b:Nat) (w:World) (Q:Int->Nat->World->Prop) (e:Ending) (w1:World):Prop:=∃(er:Int) (vl:Nat),e=.returned (mD er vl (.slice none 0 0))/\w1.heap[b]?=w.heap[b]?/\Q er vl w1
theorem EK (b K:Nat) (cap:Array Value) (pw:Value) (w:World) (Q:Int->Nat->World->Prop) {VC:Int} {VJ:Nat} (h:w.heap[b]?=some (.cells (gN K cap VC VJ) 183 (0,0)))
  (hK:∀(args:Array Value) (u:World),(callFunc K args).run Try.prog u=.ok (.enter K args) u) (hC:Calls Try.prog K (#[pw]++cap) w (AV b w Q)) :
  Calls Try.prog 138 #[.pointer (some ⟨b,0,none⟩),pw] w (HZ b K cap Q):=by
 have c0:w.cell? ⟨b,0,none⟩=some (.func (.func K) #[] cap):=by rw [aA h];rfl
 have HC:=Lib.hid hC;have Hh:=Lib.hid h
 clear hC h
 go_enter Try.func138,Try.ntmps138
 go_wp2_with fail
 refine HC.out.mono ?_
 rintro e w1 ⟨er,vl,rfl,hb,hq⟩
 have hb1:=hb.trans Hh.out
 have c1:w1.cell? ⟨b,1,none⟩=some (.int .i64 VC):=by rw [aA hb1];rfl
 have c2:w1.cell? ⟨b,2,none⟩=some (.int .u64 (VJ:Int)):=by rw [aA hb1];rfl
 have c3:w1.cell? ⟨b,3,none⟩=some (.slice none 0 0):=by rw [aA hb1];rfl
 have f1:w1.frozen? ⟨b,1,none⟩=false:=aB hb1 1
 have f2:w1.frozen? ⟨b,2,none⟩=false:=aB hb1 2
 have f3:w1.frozen? ⟨b,3,none⟩=false:=aB hb1 3
 have Hq:=Lib.hid hq;have Hb1:=Lib.hid hb1
 unfold mD
 clear hb hq hb1
 go_wp2
 go_ret
 refine⟨rfl,er,vl,w1,Hq.out,?_,?_⟩
 ·rw [aH (aH (aH Hb1.out _ _) _ _)]
  rfl
 ·exact(((Chg.refl (λk=>k=b) w1).setCell (p:=⟨b,1,none⟩) (.inl rfl) _).setCell (p:=⟨b,2,none⟩) (.inl rfl) _).setCell (p:=⟨b,3,none⟩) (.inl rfl) _
theorem zA (b K:Nat) (cap:Array Value) (er:Int) (vl:Nat) (w:World) (h:w.heap[b]?=some (.cells (gN K cap er vl) 183 (0,0))) :
  Calls Try.prog 137 #[.pointer (some ⟨b,0,none⟩)] w λe w'=>e=.returned (.tuple #[mD er vl (.slice none 0 0),.slice none 0 0])/\Below w.heap.size w w':=by
 have hlt:=aC h
 have hb2:(w.alloc (.cells #[.int .i64 0,.int .u64 0,.slice none 0 0] 42)).heap[b]?=some (.cells (gN K cap er vl) 183 (0,0)):=by rw [Below.heap_alloc _ _ _ hlt];exact h
 have c1:(w.alloc (.cells #[.int .i64 0,.int .u64 0,.slice none 0 0] 42)).cell? ⟨b,1,none⟩=some (.int .i64 er):=by rw [aA hb2];rfl
 have c2:(w.alloc (.cells #[.int .i64 0,.int .u64 0,.slice none 0 0] 42)).cell? ⟨b,2,none⟩=some (.int .u64 (vl:Int)):=by rw [aA hb2];rfl
 have c3:(w.alloc (.cells #[.int .i64 0,.int .u64 0,.slice none 0 0] 42)).cell? ⟨b,3,none⟩=some (.slice none 0 0):=by rw [aA hb2];rfl
 clear h hb2
 unfold mD
 go_enter Try.func137,Try.ntmps137
 go_wp2
 exact bodyPost_ret (v:=.tuple #[.agg #[.int .i64 er,.int .u64 (vl:Int),.slice none 0 0],.slice none 0 0]) (by simp [results,Try.results137 ,go_sem]) rfl ⟨rfl,Gr.new _ _⟩
theorem vU (args:Array Value) (u:World):(callFunc 105 args).run Try.prog u=.ok (.enter 105 args) u:=by kernel_rfl
def nM (w:World) (b be:Nat) (e:Int):Prop:=
 w.heap[b]?=some (.cells (gN 105 #[.pointer (some ⟨be,0,none⟩)] 0 0) 183 (0,0))/\w.cell? ⟨be,0,none⟩=some (.int .i64 e)/\be≠b
theorem mU (er:Int) (w:World) :
  Calls Try.prog 96 #[.int .i64 er] w λe w'=>e=.returned (.iface 181 (.pointer (some ⟨w.heap.size+1,0,none⟩)))/\nM w' (w.heap.size+1) w.heap.size er/\Below w.heap.size w w':=by
 go_enter Try.func96,Try.ntmps96
 go_wp2
 go_ret
 refine⟨rfl,⟨?_,?_,by omega⟩,Gr.alloc (Gr.new _ _) _⟩
 ·have:=heap_alloc_new (w.alloc (.cells #[.int .i64 er] 33)) (.cells (gN 105 #[.pointer (some ⟨w.heap.size,0,none⟩)] 0 0) 183 (0,0))
  rw [World.size_alloc] at this
  exact this
 ·rw [World.cell?_alloc_lt _ _ _ (by simp),dZ];rfl
theorem ES (b be:Nat) (er:Int) (pw:Value) (w:World) (h:nM w b be er) :
  Calls Try.prog 105 (#[pw]++#[.pointer (some ⟨be,0,none⟩)]) w (AV b w λe v w1=>e=er/\v=0/\Below w.heap.size w w1):=by
 obtain⟨h1,h2,h3⟩:=h
 have hlt:=aC h1
 have hlt2:=World.block_lt_of_cell? _ _ h2
 show Calls Try.prog 105 #[pw,.pointer (some ⟨be,0,none⟩)] w _
 have c2:(w.alloc (.cells #[.int .i64 0,.int .u64 0,.slice none 0 0] 42)).cell? ⟨be,0,none⟩=some (.int .i64 er):=by rw [World.cell?_alloc_lt _ _ _ hlt2];exact h2
 clear h1 h2 h3
 go_enter Try.func105,Try.ntmps105
 go_wp2
 exact bodyPost_ret (v:=mD er 0 (.slice none 0 0)) (by simp [results,Try.results105 ,go_sem,mD]) rfl ⟨er,0,rfl,Below.heap_alloc _ _ _ hlt,rfl,rfl,Gr.new _ _⟩
end
end Go.Proofs.Ytifhldnmcdbpfaa
