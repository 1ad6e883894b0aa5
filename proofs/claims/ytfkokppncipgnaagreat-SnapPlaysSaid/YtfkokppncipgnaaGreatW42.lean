/- Layer 15: snap.Play. -/
import Derived.Test.YtfkokppncipgnaaGreatW41
import Derived.Test.YtfkokppncipgnaaGreatW33
import Derived.Test.YtfkokppncipgnaaGreatW35
import Derived.Test.YtfkokppncipgnaaGreatW32
import Derived.Test.YtfkokppncipgnaaGreatW19
import Derived.Test.YtfkokppncipgnaaGreatW29
set_option maxRecDepth 100000
set_option linter.unusedVariables false
set_option linter.unusedSimpArgs false
set_option linter.unnecessarySimpa false
namespace Go.Proofs.YtfkokppncipgnaaGreat
section
open Go.RowKit
def ZW (n k:Nat) (w w':World) (e:Ending):Prop:=
 e=.returned (.pointer (some ⟨w.heap.size,0,none⟩))/\Below w.heap.size w w'/\w'.heap.size=w.heap.size+1/\w'.heap[w.heap.size]?=some (.cells (jB n k (List.replicate 16 0)).toArray 114 (0,0))
theorem Ea (n k:Nat) (w:World):Calls Tryz.prog 27 #[.int .i64 0,.int .i64 (n:Int),.int .i64 (k:Int)] w λe w'=>ZW n k w w' e:=by
 obtain⟨wb,hwb⟩:∃ wb,wb=w.alloc (.cells (jB n k (List.replicate 16 0)).toArray 114):=⟨_,rfl⟩
 have F:=Lib.hid (show ZW n k w wb (.returned (.pointer (some ⟨w.heap.size,0,none⟩))) from by
  rw [hwb]
  exact⟨rfl,Gr.new _ _,by simp,heap_alloc_new _ _⟩)
 have Hwb:=Lib.hid (show wb=w.alloc (.cells #[.int .i64 0,.int .i64 (n:Int),.int .i64 (k:Int),.int .i64 0,.int .i64 0,.int .i64 0,.int .i64 0,.int .i64 0,.int .i64 0,.int .i64 0,.int .i64 0,.int .i64 0,.int .i64 0,.int .i64 0,.int .i64 0,.int .i64 0,.int .i64 0,.int .i64 0,.int .i64 0] 114) from hwb)
 clear hwb
 go_enter Tryz.func27,Tryz.ntmps27
 go_wp2
 rw [<-Hwb.out]
 go_ret
 exact F.out
def dH (n k:Nat):Nat:=n+n*k*(n+1)
theorem kF {n k:Nat} (hn:n<=16) (hk:k<=64):dH n k<=20000:=by
 have h1:n*k<=16*64:=Nat.mul_le_mul hn hk
 have h2:n*k*(n+1)<=(16*64)*17:=Nat.mul_le_mul h1 (by omega)
 unfold dH;omega
theorem Ay (n k:Nat) (hn:n<=16) (hk:k<=64) (w:World):Calls Tryz.prog 28 #[.int .i64 (n:Int),.int .i64 (k:Int)] w λe w'=>e=.returned (.int .i64 ((dH n k:Nat):Int))/\Below w.heap.size w w':=by
 obtain⟨m,hm⟩:∃ m:Nat,m=n*k:=⟨_,rfl⟩
 have hml:m<=1024:=by
  have:n*k<=16*64:=Nat.mul_le_mul hn hk
  omega
 obtain⟨q,hq⟩:∃ q:Nat,q=m*(n+1):=⟨_,rfl⟩
 have hql:q<=100000:=by
  have:m*(n+1)<=1024*17:=Nat.mul_le_mul hml (by omega)
  omega
 have em:(n:Int)*(k:Int)=(m:Int):=by rw [hm];simp
 have eq:(m:Int)*((n:Int)+1)=(q:Int):=by rw [hq];simp
 have w1:IntKind.i64.wrap ((n:Int)*(k:Int))=(m:Int):=by rw [em,IntKind.wrap_i64];omega
 have w2:IntKind.i64.wrap ((n:Int)+1)=(n:Int)+1:=by rw [IntKind.wrap_i64];omega
 have w3:IntKind.i64.wrap ((m:Int)*((n:Int)+1))=(q:Int):=by rw [eq,IntKind.wrap_i64];omega
 have w4:IntKind.i64.wrap ((n:Int)+(q:Int))=(n:Int)+(q:Int):=by rw [IntKind.wrap_i64];omega
 have E:=Lib.hid (show((dH n k:Nat):Int)=(n:Int)+(q:Int) by unfold dH;rw [<-hm,<-hq];omega)
 rw [E.out]
 clear hm hml hq hql em eq hn hk
 go_enter Tryz.func28,Tryz.ntmps28
 go_wp2_with fail
 go_wp2
 go_ret
 first|exact⟨rfl,Gr.refl _⟩|exact⟨rfl,below_drewN (Gr.refl w) nq⟩
def jL:List Nat:=List.replicate 16 0
def gB (n k:Int) (calls:List aD) (np:Nat):Int:=if checkN n calls np≠0 then checkN n calls np else if k<1∨64<k then 10 else 0
theorem Ba {n k bP:Nat} {calls:List aD} {st:aP (aV n k)} {p:Int} (h:FI (zG n k 0) calls st p):FI (zG n k bP) calls st p:=h
set_option maxHeartbeats 4000000 in
theorem TL (X:Nat->Prop) (w:World) (n k:Int) (calls:List aD) (picks:List Int) (ca pa:Option Addr) (cc pc:Nat) (hX:∀ b,X b->b<w.heap.size) (hc:jD X w ca calls) (hp:jU w pa picks) (hsf:checkN n calls picks.length=0->1<=k->k<=64->∀ l p m,picks=l++p::m->FI (zG n.toNat k.toNat 0) calls (eF (aV n.toNat k.toNat) calls (dG (aV n.toNat k.toNat) jL (List.replicate (dH n.toNat k.toNat) 0) calls) l) p) :
  Calls Tryz.prog 15 #[.int .i64 n,.int .i64 k,.slice ca calls.length cc,.slice pa picks.length pc] w λe w'=>yC X w w' (gB n k calls picks.length) (uY (aV n.toNat k.toNat) jL (List.replicate (dH n.toNat k.toNat) 0) calls picks) e:=by
 obtain⟨wa,hwa⟩:∃ wa,wa=w.alloc (.cells #[.slice none 0 0,.slice none 0 0,.int .i64 0,.int .i64 0,.int .i64 0,.int .i64 0,.int .i64 0,.int .i64 0,.int .i64 0] 32):=⟨_,rfl⟩
 have hga:Below w.heap.size w wa:=by rw [hwa];exact Gr.new _ _
 have hra:wa.heap[w.heap.size]?=some (.cells #[.slice none 0 0,.slice none 0 0,.int .i64 0,.int .i64 0,.int .i64 0,.int .i64 0,.int .i64 0,.int .i64 0,.int .i64 0] 32 (0,0)):=by rw [hwa];exact heap_alloc_new _ _
 have hsa:w.heap.size<wa.heap.size:=by rw [hwa];simp
 have C:=Lib.hid (PQ n calls picks.length ca pa cc pc wa (hc.sl.grown hga) hp.sl.1 (λx hx=>(hc.ok x hx).thread))
 have Hc:=Lib.hid hc;have Hp:=Lib.hid hp;have HX:=Lib.hid hX
 have Hwa:=Lib.hid hwa;have Hga:=Lib.hid hga;have Hra:=Lib.hid hra
 have hpl:=hp.sl.1
 unfold maxLen at hpl
 have Hsf:=Lib.hid hsf
 clear hc hp hX hwa hga hra hsf
 obtain⟨ck,hck⟩:∃ ck,ck=checkN n calls picks.length:=⟨_,rfl⟩
 rw [<-hck] at C
 have Hck:=Lib.hid hck
 clear hck
 by_cases hc0:ck=0
 ·obtain⟨hn1,hn16⟩:=Jk (hc0 ▸ Hck.out).symm
  obtain⟨sz,rfl⟩:∃ sz:Nat,n=(sz:Int):=⟨n.toNat,by omega⟩
  have hs1:1<=sz:=by omega
  have Qb:sz<=16:=by omega
  by_cases hkb:k<1∨64<k
  ·have her:gB (sz:Int) k calls picks.length=10:=by unfold gB;rw [<-Hck.out,if_neg (by simpa using hc0),if_pos hkb]
   rw [her]
   have Hz:=Lib.hid (show(10:Int)≠0 by decide)
   subst hc0
   clear her
   have hkx:k<1∨(¬ k<1/\64<k):=by omega
   rcases hkx with hk1|⟨hk1,hk2⟩
   ·clear hkb
    go_enter Tryz.func15,Tryz.ntmps15
    go_wp2_with fail
    rw [<-Hwa.out]
    refine C.out.mono ?_
    rintro e w1 ⟨rfl,hb1⟩
    have hr1:=(hb1.block _ (aC Hra.out)).trans Hra.out
    have Hb1:=Lib.hid hb1;have Hr1:=Lib.hid hr1
    have g0:w1.cell? ⟨w.heap.size,0,none⟩=some (.slice none 0 0):=by rw [aA hr1];rfl
    have Pw:w1.frozen? ⟨w.heap.size,0,none⟩=false:=aB hr1 0
    have g1:w1.cell? ⟨w.heap.size,1,none⟩=some (.slice none 0 0):=by rw [aA hr1];rfl
    have Rk:w1.frozen? ⟨w.heap.size,1,none⟩=false:=aB hr1 1
    have g2:w1.cell? ⟨w.heap.size,2,none⟩=some (.int .i64 0):=by rw [aA hr1];rfl
    have Qa:w1.frozen? ⟨w.heap.size,2,none⟩=false:=aB hr1 2
    have g3:w1.cell? ⟨w.heap.size,3,none⟩=some (.int .i64 0):=by rw [aA hr1];rfl
    have Po:w1.frozen? ⟨w.heap.size,3,none⟩=false:=aB hr1 3
    have g4:w1.cell? ⟨w.heap.size,4,none⟩=some (.int .i64 0):=by rw [aA hr1];rfl
    have Sl:w1.frozen? ⟨w.heap.size,4,none⟩=false:=aB hr1 4
    have g5:w1.cell? ⟨w.heap.size,5,none⟩=some (.int .i64 0):=by rw [aA hr1];rfl
    have Ql:w1.frozen? ⟨w.heap.size,5,none⟩=false:=aB hr1 5
    have g6:w1.cell? ⟨w.heap.size,6,none⟩=some (.int .i64 0):=by rw [aA hr1];rfl
    have Qc:w1.frozen? ⟨w.heap.size,6,none⟩=false:=aB hr1 6
    have g7:w1.cell? ⟨w.heap.size,7,none⟩=some (.int .i64 0):=by rw [aA hr1];rfl
    have Qv:w1.frozen? ⟨w.heap.size,7,none⟩=false:=aB hr1 7
    have g8:w1.cell? ⟨w.heap.size,8,none⟩=some (.int .i64 0):=by rw [aA hr1];rfl
    have Px:w1.frozen? ⟨w.heap.size,8,none⟩=false:=aB hr1 8
    clear hr1 hb1
    go_wp2
    obtain⟨w7,hw7⟩:∃ w7,w7=(((((((((w1.setCell ⟨w.heap.size,0,none⟩ (.slice none 0 0)).setCell ⟨w.heap.size,1,none⟩ (.slice none 0 0)).setCell ⟨w.heap.size,2,none⟩ (.int .i64 0)).setCell ⟨w.heap.size,3,none⟩ (.int .i64 0)).setCell ⟨w.heap.size,4,none⟩ (.int .i64 0)).setCell ⟨w.heap.size,5,none⟩ (.int .i64 0)).setCell ⟨w.heap.size,6,none⟩ (.int .i64 0)).setCell ⟨w.heap.size,7,none⟩ (.int .i64 0)).setCell ⟨w.heap.size,8,none⟩ (.int .i64 0)):=⟨_,rfl⟩
    rw [<-hw7]
    have vZ:w7.heap[w.heap.size]?=some (.cells #[.slice none 0 0,.slice none 0 0,.int .i64 0,.int .i64 0,.int .i64 0,.int .i64 0,.int .i64 0,.int .i64 0,.int .i64 0] 32 (0,0)):=by rw [hw7,(aG (aG (aG (aG (aG (aG (aG (aG (aG Hr1.out _ _) _ _) _ _) _ _) _ _) _ _) _ _) _ _) _ _)];rfl
    have iD:Chg (λb=>b=w.heap.size) w1 w7:=by rw [hw7];exact((((((((((Chg.refl (λb=>b=w.heap.size) w1).setCell (by exact .inl rfl) _).setCell (by exact .inl rfl) _).setCell (by exact .inl rfl) _).setCell (by exact .inl rfl) _).setCell (by exact .inl rfl) _).setCell (by exact .inl rfl) _).setCell (by exact .inl rfl) _).setCell (by exact .inl rfl) _).setCell (by exact .inl rfl) _)
    clear hw7
    have hld:=lQ w7 w.heap.size _ vZ rfl
    refine bodyPost_ret (v:=.tuple #[.agg #[.slice none 0 0,.slice none 0 0,.int .i64 0,.int .i64 0,.int .i64 0,.int .i64 0,.int .i64 0,.int .i64 0,.int .i64 0],.int .i64 10]) (by simp [results,Tryz.results15 ,Sem.run_bind,Sem.run_pure,asAddr,hld]) rfl ?_
    have hall:Chg (λb=>w.heap.size<=b) w w7:=((Chg.of_below Hga.out).trans (Chg.of_below Hb1.out)).trans (iD.mono (λb _ h=>by have h9:b=w.heap.size:=h;omega))
    exact⟨none,0,0,none,0,0,_,rfl,hall.below (λb h=>h) (Nat.le_refl _),.inl ⟨Hz.out,rfl,rfl,rfl,rfl,rfl,rfl,rfl⟩⟩
   ·clear hkb
    go_enter Tryz.func15,Tryz.ntmps15
    go_wp2_with fail
    rw [<-Hwa.out]
    refine C.out.mono ?_
    rintro e w1 ⟨rfl,hb1⟩
    have hr1:=(hb1.block _ (aC Hra.out)).trans Hra.out
    have Hb1:=Lib.hid hb1;have Hr1:=Lib.hid hr1
    have g0:w1.cell? ⟨w.heap.size,0,none⟩=some (.slice none 0 0):=by rw [aA hr1];rfl
    have Pw:w1.frozen? ⟨w.heap.size,0,none⟩=false:=aB hr1 0
    have g1:w1.cell? ⟨w.heap.size,1,none⟩=some (.slice none 0 0):=by rw [aA hr1];rfl
    have Rk:w1.frozen? ⟨w.heap.size,1,none⟩=false:=aB hr1 1
    have g2:w1.cell? ⟨w.heap.size,2,none⟩=some (.int .i64 0):=by rw [aA hr1];rfl
    have Qa:w1.frozen? ⟨w.heap.size,2,none⟩=false:=aB hr1 2
    have g3:w1.cell? ⟨w.heap.size,3,none⟩=some (.int .i64 0):=by rw [aA hr1];rfl
    have Po:w1.frozen? ⟨w.heap.size,3,none⟩=false:=aB hr1 3
    have g4:w1.cell? ⟨w.heap.size,4,none⟩=some (.int .i64 0):=by rw [aA hr1];rfl
    have Sl:w1.frozen? ⟨w.heap.size,4,none⟩=false:=aB hr1 4
    have g5:w1.cell? ⟨w.heap.size,5,none⟩=some (.int .i64 0):=by rw [aA hr1];rfl
    have Ql:w1.frozen? ⟨w.heap.size,5,none⟩=false:=aB hr1 5
    have g6:w1.cell? ⟨w.heap.size,6,none⟩=some (.int .i64 0):=by rw [aA hr1];rfl
    have Qc:w1.frozen? ⟨w.heap.size,6,none⟩=false:=aB hr1 6
    have g7:w1.cell? ⟨w.heap.size,7,none⟩=some (.int .i64 0):=by rw [aA hr1];rfl
    have Qv:w1.frozen? ⟨w.heap.size,7,none⟩=false:=aB hr1 7
    have g8:w1.cell? ⟨w.heap.size,8,none⟩=some (.int .i64 0):=by rw [aA hr1];rfl
    have Px:w1.frozen? ⟨w.heap.size,8,none⟩=false:=aB hr1 8
    clear hr1 hb1
    go_wp2
    obtain⟨w7,hw7⟩:∃ w7,w7=(((((((((w1.setCell ⟨w.heap.size,0,none⟩ (.slice none 0 0)).setCell ⟨w.heap.size,1,none⟩ (.slice none 0 0)).setCell ⟨w.heap.size,2,none⟩ (.int .i64 0)).setCell ⟨w.heap.size,3,none⟩ (.int .i64 0)).setCell ⟨w.heap.size,4,none⟩ (.int .i64 0)).setCell ⟨w.heap.size,5,none⟩ (.int .i64 0)).setCell ⟨w.heap.size,6,none⟩ (.int .i64 0)).setCell ⟨w.heap.size,7,none⟩ (.int .i64 0)).setCell ⟨w.heap.size,8,none⟩ (.int .i64 0)):=⟨_,rfl⟩
    rw [<-hw7]
    have vZ:w7.heap[w.heap.size]?=some (.cells #[.slice none 0 0,.slice none 0 0,.int .i64 0,.int .i64 0,.int .i64 0,.int .i64 0,.int .i64 0,.int .i64 0,.int .i64 0] 32 (0,0)):=by rw [hw7,(aG (aG (aG (aG (aG (aG (aG (aG (aG Hr1.out _ _) _ _) _ _) _ _) _ _) _ _) _ _) _ _) _ _)];rfl
    have iD:Chg (λb=>b=w.heap.size) w1 w7:=by rw [hw7];exact((((((((((Chg.refl (λb=>b=w.heap.size) w1).setCell (by exact .inl rfl) _).setCell (by exact .inl rfl) _).setCell (by exact .inl rfl) _).setCell (by exact .inl rfl) _).setCell (by exact .inl rfl) _).setCell (by exact .inl rfl) _).setCell (by exact .inl rfl) _).setCell (by exact .inl rfl) _).setCell (by exact .inl rfl) _)
    clear hw7
    have hld:=lQ w7 w.heap.size _ vZ rfl
    refine bodyPost_ret (v:=.tuple #[.agg #[.slice none 0 0,.slice none 0 0,.int .i64 0,.int .i64 0,.int .i64 0,.int .i64 0,.int .i64 0,.int .i64 0,.int .i64 0],.int .i64 10]) (by simp [results,Tryz.results15 ,Sem.run_bind,Sem.run_pure,asAddr,hld]) rfl ?_
    have hall:Chg (λb=>w.heap.size<=b) w w7:=((Chg.of_below Hga.out).trans (Chg.of_below Hb1.out)).trans (iD.mono (λb _ h=>by have h9:b=w.heap.size:=h;omega))
    exact⟨none,0,0,none,0,0,_,rfl,hall.below (λb h=>h) (Nat.le_refl _),.inl ⟨Hz.out,rfl,rfl,rfl,rfl,rfl,rfl,rfl⟩⟩
  ·obtain⟨kk,rfl⟩:∃ kk:Nat,k=(kk:Int):=⟨k.toNat,by omega⟩
   have hk1:1<=kk:=by omega
   have EU:kk<=64:=by omega
   have her:gB (sz:Int) (kk:Int) calls picks.length=0:=by unfold gB;rw [<-Hck.out,if_neg (by simpa using hc0),if_neg hkb]
   rw [her]
   simp only [Int.toNat_natCast] at Hsf ⊢
   obtain⟨S,hS⟩:∃ S,S=dH sz kk:=⟨_,rfl⟩
   have hSl:S<=20000:=by rw [hS];exact kF Qb EU
   have P:=Lib.hid (λ(u:World) (bo bw bP:Nat) (hu:Below wa.heap.size wa u) (h1:u.cell? ⟨bo,0,none⟩=some (.iface 67 (.pointer (some ⟨bP,0,none⟩)))) (h2:u.heap[bw]?=some (.cells (madeCells #[.int .u64 0] S) 46 (0,0))) (h3:u.heap[bP]?=some (.cells (jB sz kk (List.replicate 16 0)).toArray 114 (0,0)))
     (hq:wa.heap.size<=bP/\wa.heap.size<=bo/\bo≠bP)=>
    (Ar (X:=λb=>(X b∨b=w.heap.size)∨b=bP) (R:=zG sz kk bP) (LB sz kk bP Qb EU) (VV sz kk bP) (by show 1<=1000;omega) u jL sz calls (List.replicate S 0) picks (.slice (some ⟨bo,0,none⟩) 1 1) (.slice ca calls.length cc) (.slice (some ⟨bw,0,none⟩) (List.replicate S 0).length S) pa pc
     ⟨⟨ca,cc,rfl,Hc.out.sl.grown (Gr.trans Hga.out hu),λhl b off e hx=>by
      obtain⟨b0,KU,e0,hb0⟩:=Hc.out.sl.lt hl
      rcases hx with(hx|hx)|hx
      ·exact Hc.out.nx hl b off e hx
      ·rw [e0] at e;cases e;omega
      ·rw [e0] at e;cases e;omega⟩,Hc.out.ok,⟨bo,0,1,rfl,h1,λhx=>by rcases hx with(hx|hx)|hx;have:=HX.out bo hx;omega;omega;omega⟩,⟨_,S,rfl,Cr h2 (by omega),λe=>by cases e⟩,by rw [List.length_replicate];omega,λx hx=>by rw [(List.mem_replicate.1 hx).2];omega,λb hb=>.inr hb,
      λv M hv hM=>⟨(hv.block _ (aC h3)).trans h3,by simp [jL],hM bP rfl⟩,trivial,λb hx=>by
       have:=hu.size
       rcases hx with(hx|hx)|hx
       ·have:=HX.out b hx;omega
       ·omega
       ·rw [hx];exact aC h3⟩ (Hp.out.sl.grown (Gr.trans Hga.out hu)) (λhl b off e hx=>by
      obtain⟨b0,KU,e0,hb0⟩:=Hp.out.sl.lt hl
      rw [e0] at e;cases e
      have hx:b=bP:=hx
      omega) Hp.out.ok (λh l p m hl=>by rw [hS];exact Ba (Hsf.out h (by omega) (by omega) l p m hl))).mono (λe w' h=>(⟨KX.ret h (X':=λb=>X b∨b=w.heap.size) hu (λb hb=>by have hb:b=bP:=hb;omega) (λb hb=>.inl hb),Gr.refl _⟩:yC (λb=>X b∨b=w.heap.size) wa w' (checkN sz calls picks.length) (uY (aV sz kk) jL (List.replicate S 0) calls picks) e/\Below wa.heap.size wa wa)))
   have N:=Lib.hid (Ea sz kk)
   have Z:=Lib.hid (Ay sz kk Qb EU)
   rw [<-hS] at Z
   have hmk:=XF S (S:Int) rfl (by omega)
   rw [<-hS]
   obtain⟨rr,hrr⟩:∃ rr,rr=uY (aV sz kk) jL (List.replicate S 0) calls picks:=⟨_,rfl⟩
   rw [<-Hck.out,hc0,<-hrr] at P
   rw [<-hrr]
   simp only [List.length_replicate] at P
   have l1:¬ (kk:Int)<1:=by omega
   have l2:¬ (64:Int)<(kk:Int):=by omega
   subst hc0
   clear hrr her hS hkb EU hSl
   go_enter Tryz.func15,Tryz.ntmps15
   go_wp2_with fail
   rw [<-Hwa.out]
   refine C.out.mono ?_
   rintro e w1 ⟨rfl,hb1⟩
   have Hb1:=Lib.hid hb1
   clear hb1
   go_wp2_with fail
   refine(N.out _).mono ?_
   rintro e w2 ⟨rfl,hb2,hs2,hP2⟩
   have aAZ:=Hb1.out.size
   obtain⟨bP,hbP⟩:∃ bP,bP=w1.heap.size:=⟨_,rfl⟩
   rw [<-hbP] at hP2
   rw [<-hbP]
   have Hb2:=Lib.hid hb2;have Hs2:=Lib.hid hs2;have HP2:=Lib.hid hP2;have HbP:=Lib.hid hbP
   clear hb2 hs2 hP2 hbP
   go_wp2_with fail
   refine(Z.out _).mono ?_
   rintro e w3 ⟨rfl,hb3⟩
   have Hb3:=Lib.hid hb3
   clear hb3
   go_wp2_with fail
   have hb3:=Hb3.out
   have hs3:=hb3.size
   simp only [World.size_alloc] at hs3
   have hs2:=Hs2.out;have hbP:=HbP.out
   obtain⟨w5,ML⟩:∃ w5,w5=w3.alloc (.cells (madeCells #[.int .u64 0] S) 46):=⟨_,rfl⟩
   have g35:Below w3.heap.size w3 w5:=by rw [ML];exact Gr.new _ _
   have g25:Below w2.heap.size w2 w5:=Gr.trans (Gr.new _ _) (Gr.trans hb3 g35)
   have h1:w5.cell? ⟨w2.heap.size,0,none⟩=some (.iface 67 (.pointer (some ⟨bP,0,none⟩))):=((Gr.trans hb3 g35).cell (p:=⟨w2.heap.size,0,none⟩) (by simp)).trans (by rw [iI];rfl)
   have h2:w5.heap[w3.heap.size]?=some (.cells (madeCells #[.int .u64 0] S) 46 (0,0)):=by rw [ML];exact heap_alloc_new _ _
   have P5:=P.out w5 w2.heap.size w3.heap.size bP (Gr.trans Hb1.out (Gr.trans Hb2.out g25)) h1 h2 ((g25.block _ (aC HP2.out)).trans HP2.out) ⟨by omega,by omega,by omega⟩
   rw [ML] at P5
   refine P5.mono ?_
   rintro e w4 ⟨⟨ea,en,ec,va,vn,vc,rp,rfl,hrest⟩,hu⟩
   have hr4:=(hrest.1.block w.heap.size (aC Hra.out)).trans Hra.out
   obtain⟨cs,w7,hcs,hsz,hst,Ik,iD⟩:=zZ w4 w.heap.size (.slice ea en ec) (.slice va vn vc) rp hr4 rfl rfl
   rw [hcs]
   have Hcs:=Lib.hid hcs;have Hbk7:=Lib.hid Ik;have Hch7:=Lib.hid iD;have Hrest:=Lib.hid hrest;have Hu:=Lib.hid hu
   clear hr4 hrest hu hcs Ik iD hb3 hs3 hs2 hbP ML g35 g25 h1 h2 P5
   go_wp2
   have hld:=lQ w7 w.heap.size cs Hbk7.out hsz
   refine bodyPost_ret (v:=.tuple #[.agg cs,.int .i64 0]) (by simp [results,Tryz.results15 ,Sem.run_bind,Sem.run_pure,asAddr,hld]) rfl ?_
   refine⟨ea,en,ec,va,vn,vc,rp,by rw [Hcs.out],zD.chg Hrest.out Hch7.out (λb hb=>?_) (Gr.trans Hga.out Hu.out) (λb hb=>.inl hb)⟩
   have hb':b=w.heap.size:=hb
   exact⟨.inr hb',by omega,by have:=Hu.out.size;omega⟩
 ·have her:gB n k calls picks.length=ck:=by unfold gB;rw [<-Hck.out,if_pos (by simpa using hc0)]
  rw [her]
  have Her0:=Lib.hid hc0
  clear her
  go_enter Tryz.func15,Tryz.ntmps15
  go_wp2_with fail
  rw [<-Hwa.out]
  refine C.out.mono ?_
  rintro e w1 ⟨rfl,hb1⟩
  have hr1:=(hb1.block _ (aC Hra.out)).trans Hra.out
  have Hb1:=Lib.hid hb1;have Hr1:=Lib.hid hr1
  have g0:w1.cell? ⟨w.heap.size,0,none⟩=some (.slice none 0 0):=by rw [aA hr1];rfl
  have Pw:w1.frozen? ⟨w.heap.size,0,none⟩=false:=aB hr1 0
  have g1:w1.cell? ⟨w.heap.size,1,none⟩=some (.slice none 0 0):=by rw [aA hr1];rfl
  have Rk:w1.frozen? ⟨w.heap.size,1,none⟩=false:=aB hr1 1
  have g2:w1.cell? ⟨w.heap.size,2,none⟩=some (.int .i64 0):=by rw [aA hr1];rfl
  have Qa:w1.frozen? ⟨w.heap.size,2,none⟩=false:=aB hr1 2
  have g3:w1.cell? ⟨w.heap.size,3,none⟩=some (.int .i64 0):=by rw [aA hr1];rfl
  have Po:w1.frozen? ⟨w.heap.size,3,none⟩=false:=aB hr1 3
  have g4:w1.cell? ⟨w.heap.size,4,none⟩=some (.int .i64 0):=by rw [aA hr1];rfl
  have Sl:w1.frozen? ⟨w.heap.size,4,none⟩=false:=aB hr1 4
  have g5:w1.cell? ⟨w.heap.size,5,none⟩=some (.int .i64 0):=by rw [aA hr1];rfl
  have Ql:w1.frozen? ⟨w.heap.size,5,none⟩=false:=aB hr1 5
  have g6:w1.cell? ⟨w.heap.size,6,none⟩=some (.int .i64 0):=by rw [aA hr1];rfl
  have Qc:w1.frozen? ⟨w.heap.size,6,none⟩=false:=aB hr1 6
  have g7:w1.cell? ⟨w.heap.size,7,none⟩=some (.int .i64 0):=by rw [aA hr1];rfl
  have Qv:w1.frozen? ⟨w.heap.size,7,none⟩=false:=aB hr1 7
  have g8:w1.cell? ⟨w.heap.size,8,none⟩=some (.int .i64 0):=by rw [aA hr1];rfl
  have Px:w1.frozen? ⟨w.heap.size,8,none⟩=false:=aB hr1 8
  clear hr1 hb1
  go_wp2
  obtain⟨w7,hw7⟩:∃ w7,w7=(((((((((w1.setCell ⟨w.heap.size,0,none⟩ (.slice none 0 0)).setCell ⟨w.heap.size,1,none⟩ (.slice none 0 0)).setCell ⟨w.heap.size,2,none⟩ (.int .i64 0)).setCell ⟨w.heap.size,3,none⟩ (.int .i64 0)).setCell ⟨w.heap.size,4,none⟩ (.int .i64 0)).setCell ⟨w.heap.size,5,none⟩ (.int .i64 0)).setCell ⟨w.heap.size,6,none⟩ (.int .i64 0)).setCell ⟨w.heap.size,7,none⟩ (.int .i64 0)).setCell ⟨w.heap.size,8,none⟩ (.int .i64 0)):=⟨_,rfl⟩
  rw [<-hw7]
  have vZ:w7.heap[w.heap.size]?=some (.cells #[.slice none 0 0,.slice none 0 0,.int .i64 0,.int .i64 0,.int .i64 0,.int .i64 0,.int .i64 0,.int .i64 0,.int .i64 0] 32 (0,0)):=by rw [hw7,(aG (aG (aG (aG (aG (aG (aG (aG (aG Hr1.out _ _) _ _) _ _) _ _) _ _) _ _) _ _) _ _) _ _)];rfl
  have iD:Chg (λb=>b=w.heap.size) w1 w7:=by rw [hw7];exact((((((((((Chg.refl (λb=>b=w.heap.size) w1).setCell (by exact .inl rfl) _).setCell (by exact .inl rfl) _).setCell (by exact .inl rfl) _).setCell (by exact .inl rfl) _).setCell (by exact .inl rfl) _).setCell (by exact .inl rfl) _).setCell (by exact .inl rfl) _).setCell (by exact .inl rfl) _).setCell (by exact .inl rfl) _)
  clear hw7
  have hld:=lQ w7 w.heap.size _ vZ rfl
  refine bodyPost_ret (v:=.tuple #[.agg #[.slice none 0 0,.slice none 0 0,.int .i64 0,.int .i64 0,.int .i64 0,.int .i64 0,.int .i64 0,.int .i64 0,.int .i64 0],.int .i64 ck]) (by simp [results,Tryz.results15 ,Sem.run_bind,Sem.run_pure,asAddr,hld]) rfl ?_
  have hall:Chg (λb=>w.heap.size<=b) w w7:=((Chg.of_below Hga.out).trans (Chg.of_below Hb1.out)).trans (iD.mono (λb _ h=>by have h9:b=w.heap.size:=h;omega))
  exact⟨none,0,0,none,0,0,_,rfl,hall.below (λb h=>h) (Nat.le_refl _),.inl ⟨Her0.out,rfl,rfl,rfl,rfl,rfl,rfl,rfl⟩⟩
end
section
open Go.RowKit
variable {n k:Nat} {calls:List aD}
theorem UI (hn1:1<=n) (hn:n<=16) (k:Nat) (calls:List aD):gY n k calls (dG (aV n k) jL (List.replicate (dH n k) 0) calls) (λ_=>0):=by
 have hz:∀ t,List.getD (α:=Nat) (dG (aV n k) jL (List.replicate (dH n k) 0) calls).obj t 0=0:=λt=>jN
 have hw:∀ a,(List.replicate (dH n k) 0).getD a 0=0:=λa=>jN
 refine⟨rfl,rfl,Nat.le_refl _,by show(List.replicate (dH n k) 0).length=_;rw [List.length_replicate];rfl,rfl,λt=>by rw [hz];exact Nat.zero_le _,λt _=>by rw [hz];rfl,⟨λi hi=>⟨none,λj hj=>absurd hj (Nat.not_lt_zero _),hw i⟩,by show n<=(List.replicate (dH n k) 0).length;rw [List.length_replicate];unfold dH;omega,λx hx=>absurd hx (Nat.not_lt_zero _),λx y hx=>absurd hx (Nat.not_lt_zero _),λx hx=>absurd hx (Nat.not_lt_zero _),λx hx=>absurd hx (Nat.not_lt_zero _),λx y hx=>absurd hx (Nat.not_lt_zero _),λx y hx=>absurd hx (Nat.not_lt_zero _)⟩,λx hx=>absurd hx (Nat.not_lt_zero _),λp s j hp=>?_,λj hj=>absurd hj (Nat.not_lt_zero _)⟩
 rw [show(dG (aV n k) jL (List.replicate (dH n k) 0) calls).hands.getD p (none,0)=(none,0) from jN] at hp;cases hp
theorem Ko {np:Nat} (hck:checkN n calls np=0) (hk:k<=64) (l:List Int):bQ calls (eF (aV n k) calls (dG (aV n k) jL (List.replicate (dH n k) 0) calls) l)/\xI (eF (aV n k) calls (dG (aV n k) jL (List.replicate (dH n k) 0) calls) l)/\∃ rho,gY n k calls (eF (aV n k) calls (dG (aV n k) jL (List.replicate (dH n k) 0) calls) l) rho:=by
 obtain⟨hn1,hn16⟩:=Jk hck
 have hthr':=WU hck
 have hthr:∀ c,c<calls.length->0<=(calls.getD c d0).thread/\(calls.getD c d0).thread<n:=λc hc=>by have:=zH hck c hc;omega
 have hnow:=(LB n k 0 (by omega) hk).now
 exact zS (S:=aV n k) hnow hthr' (J:=λst=>xI st/\∃ rho,gY n k calls st rho) (λst st' hg _ hj hT=>⟨YV hnow hg hj.1 hT,ZY (by omega) (by omega) hthr hg hj.2 hT⟩) l (vR (S:=aV n k) calls jL (List.replicate (dH n k) 0)) ⟨λi j hi=>absurd hi (Nat.not_lt_zero _),_,UI (by omega) (by omega) k calls⟩
theorem QT {p:Nat} {u:Nat} (hn:n<=16) (hk:k<=64) (hp:p<n) (hu:u<k):bG n k p u<20000:=by
 have h1:=SN (n:=n) hp hu
 have h2:VB n k<=20000:=kF hn hk
 omega
theorem YW {st:aP (aV n k)} {q i j:Nat} {aQ:List EvD} {rho:Nat->Nat} {s:SnS} {cZ:WD} (hn:1<=n) (hn16:n<=16) (hk:k<=64) (hthr:∀ c,c<calls.length->0<=(calls.getD c d0).thread/\(calls.getD c d0).thread<n) (hg:bQ calls st) (h:gY n k calls st rho) (ht:st.wd.now<=1000000) (hN:gF calls st.fin (q:Int)=some i) (hf:From calls st q i j s aQ cZ):Ee n st.obj cZ s:=by
 have hopen:(aF aQ j).resp=0:=hf.open_
 have hnx:=hf.next hg hN (aS (aF aQ j)) rfl
 have hqn:=YM hthr hN
 have hwl:st.wd.mem.ws.length<=20000:=by rw [h.wl];exact kF hn16 hk
 obtain⟨g1,g2⟩:=wV hn hthr hg h hN hf hnx (.inl hopen)
 have sc:∀(x:ScD) (N:Nat),x.pc≠3->BH n calls FK EI rho (aQ.set j (aS (aF aQ j))) st.wd.traces (st.wd.now+1) q (aF aQ j).inv N x->FH n cZ x/\((bE n cZ x).pc=3->0<=(bE n cZ x).moment/\(bE n cZ x).moment<1000000000):=λx N h3 hx=>by
  obtain⟨a1,a2,a3⟩:=xV hn hn16 hthr hg h hN hf hnx (.inl hopen) (kL hopen) h3 hx
  refine⟨?_,λe=>?_⟩
  ·rcases hx.body with⟨e,c⟩|⟨e,c⟩|⟨e,c⟩|⟨e,_⟩
   ·refine⟨by omega,c.at_,λ_=>⟨?_,c.nil,λhl hr d f hd=>?_⟩,λh9=>by omega,λh9=>by omega,λh9=>by omega⟩
    ·have h1:=SA hqn (by have:=hx.l3;omega) hx.dn hx.own
     have h2:=c.few
     omega
    ·have hne:x.old≠x.now.set x.at_ (dZ cZ x.at_):=λe9=>by
      obtain⟨_,s2⟩:=yD x.old (x.now.set x.at_ (dZ cZ x.at_)) n 0 x.diff (by have:=hx.l3;omega)
      obtain⟨y,_,_,y3,_⟩:=s2 d f hd
      exact y3 (by rw [<-e9])
     have hgo:bE n cZ x={ x with now:=x.now.set x.at_ (dZ cZ x.at_),at_:=0,rounds:=x.rounds+1,diff:=d,pc:=2,from_:=f,moment:=(cZ.traces f).headD 0 }:=by
      have ha:bK x=x.at_:=by unfold bK;rw [if_pos e]
      unfold bE jJ
      rw [if_pos e,if_pos hl,ha]
      exact wF (s:={ x with now:=x.now.set x.at_ (dZ cZ x.at_),at_:=x.at_+1 }) hr hne hd
     rw [hgo] at a2
     rcases a2.body with⟨e',_⟩|⟨e',_⟩|⟨_,c'⟩|⟨e',_⟩
     ·cases e'
     ·cases e'
     ·obtain⟨jj,j1,j2,j3⟩:=c'.ref
      have h5:=(a3.pos jj j1 j2).2
      have j3:f=rho jj:=j3
      have h6:st.wd.traces (f:Int)=[_]:=c'.tr
      exact⟨by omega,by rw [hf.trs,h6];exact List.cons_ne_nil _ _⟩
     ·cases e'
   ·refine⟨by omega,c.at_,λh9=>by omega,λ_=>c.len,λ_=>?_,λh9=>by omega⟩
    obtain⟨m,_,_,_,m4,_⟩:=c.mom
    obtain⟨oj,o1,o2⟩:=m4 x.at_ c.at_
    match oj,o1,o2 with
    | none,_,o2=>exact absurd o2 c.pos
    | some y,o1,o2=>
     have h5:=(a3.pos y o1.1 o1.2.1).2
     have o2:x.now.getD x.at_ 0=rho y:=o2
     omega
   ·refine⟨by omega,c.at_,λh9=>by omega,λ_=>c.len,λh9=>by omega,λ_=>?_⟩
    obtain⟨jj,j1,j2,j3⟩:=c.ref
    have h5:=(a3.pos jj j1 j2).2
    omega
   ·exact absurd e h3
  ·rcases a2.body with⟨e',_⟩|⟨e',_⟩|⟨e',_⟩|⟨_,c⟩
   ·omega
   ·omega
   ·omega
   ·obtain⟨m,m1,m2,m3,_⟩:=c.mom
    omega
 match s,g2 with
 | .rd x key,⟨_,_,h3,hx⟩=>exact sc x _ h3 hx
 | .up x p' r nx v sc',⟨_,g3,_,g5,g6,g7⟩=>
  rcases g7 with⟨rfl,_,h3,hx⟩|⟨rfl,h3,h4,⟨N,hx,_⟩,_⟩
  ·exact(sc x _ h3 hx).1
  ·rcases hx.body with⟨e',_⟩|⟨e',_⟩|⟨e',_⟩|⟨_,c⟩
   ·omega
   ·omega
   ·omega
   ·refine⟨c.len,?_,h4,by omega,?_⟩
    ·have:=QT hn16 hk hqn g5;omega
    ·rw [g3];omega
theorem Nq (hk:k<=64) {picks:List Int} (hck:checkN n calls picks.length=0):∀ l p m,picks=l++p::m->FI (zG n k 0) calls (eF (aV n k) calls (dG (aV n k) jL (List.replicate (dH n k) 0) calls) l) p:=by
 intro l p m hl i hN
 obtain⟨hn1,hn16⟩:=Jk hck
 have hnp:=Vw hck
 have hll:l.length<picks.length:=by rw [hl];simp
 have htk:=zF (S:=aV n k) (LB n k 0 (by omega) hk).now (dG (aV n k) jL (List.replicate (dH n k) 0) calls) l (calls:=calls)
 rw [show(dG (aV n k) jL (List.replicate (dH n k) 0) calls).wd.now=0 from rfl,show(dG (aV n k) jL (List.replicate (dH n k) 0) calls).idle=0 from rfl] at htk
 obtain⟨a,_,rho,b⟩:=Ko hck hk l
 have hthr:∀ c,c<calls.length->0<=(calls.getD c d0).thread/\(calls.getD c d0).thread<n:=λc hc=>by have:=zH hck c hc;omega
 have hN0:=hN
 obtain⟨n1,n2,n3⟩:=fC hN
 have ht:=WU hck i n1
 obtain⟨q,rfl⟩:∃ q:Nat,p=(q:Int):=⟨p.toNat,by omega⟩
 simp only [Int.toNat_natCast]
 refine⟨λs j hh=>?_,λhh s hs=>?_⟩
 ·obtain⟨k1,k2,k3,k4⟩:=a.ev.hand q j (by unfold fQ;rw [hh];rfl)
  have hc:(aF (eF (aV n k) calls (dG (aV n k) jL (List.replicate (dH n k) 0) calls) l).evs j).call=i:=by rw [hN] at k4;exact(Option.some.inj k4).symm
  exact YW (by omega) (by omega) hk hthr a b (by omega) hN (.old j s hh k1 hc k3)
 ·exact YW (by omega) (by omega) hk hthr a b (by omega) hN (.new s hh hs)
structure aAn (n k:Nat) (calls:List aD) (evs:List EvD):Prop where
 call:∀ i,i<evs.length->(aF evs i).call<calls.length
 steps:∀ i,i<evs.length->(aF evs i).steps<=(n+1)*n+n+n+2/\(kindOf calls (aF evs i)=1->(aF evs i).steps<=(n+1)*n+n)
end
section
open Go.RowKit
def zA:Nat:=100000002
def w64 (x:Int):Int:=IntKind.i64.wrap x
def wZ (a:Nat) (k:List Int) (r:RWD):RWD:=if a<r.traces.length then { r with traces:=r.traces.set a k } else r
def XE:List Nat->Int->Pq:=λl c=>.ret λt r=>⟨t.err,t.val,l,[w64 (2*EK c t r),w64 (2*lI t)],t.priv⟩
def wrT (a:Nat) (k:Pq):List Nat->Nat->Pq
 | [],_=>k
 | x::xs,i=>.acc 1 ((a+1+i:Nat):Int) x 0 kY λ_=>wrT a k xs (i+1)
def MH (a cell u:Nat) (c:Int):Pq:=.acc 1 (cell:Int) a 0 (λt r=>wZ a [EK c t r] r) λ_=>.ret λt _=>⟨t.err,t.val,t.list,t.key,[u+1]⟩
def VW (a cell u v:Nat):List Nat->Int->Pq:=λl c=>.acc 1 (a:Int) v 0 kY λ_=>wrT a (MH a cell u c) l 0
def Kk (e:Int):Pq:=.ret λt _=>⟨e,t.val,t.list,t.key,t.priv⟩
def vY (n k:Nat) (c:aD) (p:Nat) (own:List Nat):Pq:=
 if c.kind=1 then kR (gJ n) n zA (List.replicate n false) XE
 else if c.kind≠0 then Kk 9
 else if k<=own.headD 0 then Kk 6
 else kR (gJ n) n zA (List.replicate n false) (VW (bG n k p (own.headD 0)) p (own.headD 0) c.a)
def iE (n k:Nat) (c:aD) (t:aJ) (r:RWD):aJ×RWD:=(vY n k c t.thread t.priv).run t r
theorem Gz (a:Nat) (z:List Int) (r:RWD):(wZ a z r).mem=r.mem/\(wZ a z r).now=r.now/\(wZ a z r).marks.length=r.marks.length/\(wZ a z r).traces.length=r.traces.length:=by
 unfold wZ
 split
 ·exact⟨rfl,rfl,rfl,by simp⟩
 ·exact⟨rfl,rfl,rfl,rfl⟩
theorem Gy (a:Nat) (k:aJ->RWD->List Int):TQ (λt r=>wZ a (k t r) r):=λt r=>Gz a (k t r) r
theorem LX {a:Nat} {k:Pq} (h:k.effs):∀ l i,(wrT a k l i).effs
 | [],_=>h
 | x::xs,i=>⟨xB,λ_=>LX h xs _⟩
theorem QP {N a:Nat} {k:Pq} (h:k.short N):∀ l i,(wrT a k l i).short N
 | [],_=>h
 | x::xs,i=>λ_=>QP h xs _
theorem QI (a cell u:Nat) (c:Int):(MH a cell u c).effs:=⟨Gy a _,λ_=>trivial⟩
theorem ZO (n k:Nat) (c:aD) (p:Nat) (own:List Nat):(vY n k c p own).effs:=by
 unfold vY
 split
 ·exact IP (λ_ _=>trivial)
 ·split
  ·trivial
  ·split
   ·trivial
   ·exact IP (λl c=>⟨xB,λ_=>LX (QI _ _ _ _) _ _⟩)
theorem YL (a cell u:Nat) (c:Int):(MH a cell u c).short 1000:=λ_=>λt _ _=>(by decide:1<=1000)
theorem Ey (n k:Nat) (c:aD) (p:Nat) (own:List Nat):(vY n k c p own).short 1000:=by
 unfold vY
 split
 ·exact BZ (λ_ _=>λt _ h=>h)
 ·split
  ·exact λt _ h=>h
  ·split
   ·exact λt _ h=>h
   ·exact BZ (λl c=>λ_=>QP (YL _ _ _ _) _ _)
theorem xD (n k:Nat):DoB (iE n k) where
 runs:=λc t r=>Pq.runs _ t r (ZO n k c t.thread t.priv)
 priv:=λc t r h=>Pq.run_short (N:=1000) _ t r (Ey n k c t.thread t.priv) h
theorem Be (n k:Nat):DoT (iE n k):=λc t r x hx=>Pq.ticks _ t r (ZO n k c t.thread t.priv) x hx
structure VG (n:Nat) (c:aD) (t:aJ) (r:RWD):Prop where
 list:t.list=[]
 at0:t.at_=0
 got:∀ x,x∈t.got->x<18446744073709551616
 tr:r.traces.length<=1000000
 thr:t.thread<n
 own:t.priv.headD 0<=64
end
section
open Go.RowKit
theorem vM.halted {c:aD} {t t1 u:aJ} {o:Ei} (h1:t1.thread=t.thread) (h2:t1.inv=t.inv) (hu:u=t1.out o) (hh:t1.halt=true):vM c t t1 u:=by
 subst hu
 exact⟨h1,h2,rfl,rfl,rfl,λe=>by
  have e':t1.halt=false:=e
  rw [hh] at e';cases e'⟩
theorem vM.same {c:aD} {t u:aJ} (h1:u.thread=t.thread) (h2:u.inv=t.inv):vM c t u u:=⟨h1,h2,rfl,rfl,rfl,λ_=>⟨rfl,rfl,rfl,rfl,λ_=>rfl⟩⟩
theorem vM.halt2 {c:aD} {t t1 u:aJ} (h1:t1.thread=t.thread) (h2:t1.inv=t.inv) (hu:u.halt=true) (hh:t1.halt=true) (hg:t1.got=u.got) (hk:t1.ticks=u.ticks):vM c t t1 u:=
 ⟨h1,h2,by rw [hh,hu],hg,hk,λe=>by rw [hu] at e;cases e⟩
end
section
open Go.RowKit
variable {B:fD} {w w':World} {t:aJ} {r:RWD}
theorem gT.list {V:Value} {l:List Nat} {bs:List (Nat×Obj)} (h:gT B w t r V l bs) (hl:l.length<=1000000) (hn:l=[]->V=.slice none 0 0):RAt B (w.setCell ⟨B.I.tb,B.I.pre.length+11,none⟩ V) { t with list:=l } r:=by
 obtain⟨a,c,rfl⟩:=h.row.form
 obtain⟨G,K,L,h1,h2,h3⟩:=h.o
 have hA:fI w B.I G K L t r:=h1.re (S:=noB) (Mx':=B.I.Mx) (Chg.refl _ _) (λ_ e=>e.elim) (λb hb=>.inl (.inl hb))
 have hU:EN B w t r (.slice a l.length c) l:=⟨G,K,L,hA,h2,a,c,rfl,(wR h.row (by unfold maxLen;omega) (g:=fE l) (λj hj=>by simp [fE,bI,List.getD_eq_getElem?_getD,hj])).1,λh0 b off e hm=>by
  have hob:(Value.slice a l.length c).ownBlock=some b:=by rw [e];rfl
  rcases hm with hm|hm
  ·exact h1.dis b (.inr (.inl hob)) hm
  ·exact h.mx b hob hm⟩
 exact hU.putList hn
theorem Ke (h:RAt B w t r):iC t<=zA:=by
 obtain⟨_,_,_,_,h5⟩:=h.lists
 unfold iC zA
 split
 ·omega
 ·split<;>omega
theorem lD.runs {n:Nat} {Rn:aJ×RWD} {K:List Nat->Int->Pq} {e:Ending} (h:lD B w n Rn K e):∃ V mm tt rr l,e=.returned (.tuple #[V,.int .i64 mm])/\gT B w tt rr V l []/\(l=[]->V=.slice none 0 0)/\l.length<=n/\(∀ x,x∈l->x<18446744073709551616)/\(tt.halt=true->∃ o,Rn=(tt.out o,rr))/\(tt.halt=false->∃ c,Rn=(K l c).run tt rr/\zM c tt rr mm/\l.length=n):=h
set_option maxHeartbeats 8000000 in
theorem Ng (n k:Nat) (hn1:1<=n) (hn:n<=16) (c:aD) (th:Int) (xa xb xc:Nat) (h:RAt B w t r) (hp:VG n c t r) :
  Calls Tryz.prog 70 #[.pointer (some ⟨B.I.tb,B.I.pre.length,none⟩),.int .i64 (n:Int),.int .i64 0,.agg #[.int .i64 5,.int .i64 (k:Int),.int .i64 0],.agg #[.int .i64 th,.int .i64 0,.int .i64 1,.int .u64 (xa:Int),.int .u64 (xb:Int),.int .u64 (xc:Int)]] w λe u=>e=.returned (.tuple #[])/\∃ t',RAt B u t' (iE n k ⟨th,0,1,xa,xb,xc⟩ t r).2/\vM c t t' (iE n k ⟨th,0,1,xa,xb,xc⟩ t r).1:=by
 obtain⟨wb,hwb,hg,hS,hC⟩:=zB w 5 (k:Int) 0 th 1 xa xb xc
 have hA:=h.grown hg
 have q2:wb.cell? ⟨w.heap.size+1,2,none⟩=some (.int .i64 1):=by rw [aA hC];rfl
 obtain⟨R,hR⟩:∃ R,R=iE n k ⟨th,0,1,xa,xb,xc⟩ t r:=⟨_,rfl⟩
 have RU:=(xD n k).runs ⟨th,0,1,xa,xb,xc⟩ t r
 rw [<-hR] at RU ⊢
 have SC:=UC n hn1 hn zA XE hA (Ke hA) hp.at0 ⟨hp.got,hA.words⟩ hp.tr
 have hR2:R=(kR (gJ n) n zA (List.replicate n false) XE).run t r:=by rw [hR];rfl
 rw [<-hR2] at SC
 have FIN:∀(tt:aJ) (rr:RWD) (l:List Nat) (mm:Int),(tt.halt=true->∃ o,R=(tt.out o,rr))->(tt.halt=false->∃ c,R=(XE l c).run tt rr/\zM c tt rr mm/\l.length=n)->rr=R.2/\vM c t { tt with list:=l,key:=[w64 (2*mm),w64 (2*lI tt)] } R.1:=λtt rr l mm h1 h2=>by
  by_cases hh:tt.halt=true
  ·obtain⟨o,ho⟩:=h1 hh
   have e1:R.1=tt.out o:=by rw [ho]
   have hth:tt.thread=t.thread:=by have:=RU.thread;rw [e1] at this;exact this
   have hin:tt.inv=t.inv:=by have:=RU.inv;rw [e1] at this;exact this
   refine⟨by rw [ho],?_⟩
   rw [e1]
   exact vM.halt2 (t1:={ tt with list:=l,key:=[w64 (2*mm),w64 (2*lI tt)] }) (u:=tt.out o) hth hin hh hh rfl rfl
  ·obtain⟨c',hc,hd,_⟩:=h2 (by simpa using hh)
   have e1:R=({ tt with list:=l,key:=[w64 (2*mm),w64 (2*lI tt)] },rr):=by
    rw [hc,<-hd.dec];rfl
   have hth:tt.thread=t.thread:=by have:=RU.thread;rw [e1] at this;exact this
   have hin:tt.inv=t.inv:=by have:=RU.inv;rw [e1] at this;exact this
   rw [e1]
   exact⟨rfl,vM.same hth hin⟩
 have HSC:=Lib.hid SC;have Hwb:=Lib.hid hwb;have HF:=Lib.hid FIN
 clear hwb hg hS hC h hA hR hR2 SC RU FIN hp
 go_enter Tryz.func70,Tryz.ntmps70
 go_upto_region 1 with fail
 rw [<-Hwb.out]
 go_upto_region 3 with(go_at_call 98;refine HSC.out.mono ?_;intro e w2 hres;obtain⟨V,mm,tt,rr,l,rfl,hV,hnl,hln,hlM,Dt,Pb⟩:=hres.runs;clear hres)
 obtain⟨va,vc,hVf⟩:=hV.row.form
 obtain⟨L,hL⟩:∃ L,L=l.length:=⟨_,rfl⟩
 rw [<-hL] at hVf
 subst hVf
 have hL9:l.length<=1000000:=by omega
 have A3:=hV.list hL9 hnl
 obtain⟨_,_,_,_,_,yE⟩:∃ G K PV KV LV,w2.cell? ⟨B.I.tb,B.I.pre.length+11,none⟩=some LV:=by obtain⟨G,K,PV,LV,KV,h9⟩:=hV.at.get (i:=11) (by omega);exact⟨G,K,PV,KV,LV,h9⟩
 have f11:=hV.at.frozen (B.I.pre.length+11)
 have ltb:=hV.at.lt
 obtain⟨w3,hw3⟩:∃ w3,w3=w2.setCell ⟨B.I.tb,B.I.pre.length+11,none⟩ (.slice va L vc):=⟨_,rfl⟩
 rw [<-hw3] at A3
 obtain⟨hrr,hdo⟩:=HF.out tt rr l mm Dt Pb
 have Hw3:=Lib.hid hw3;have H3:=Lib.hid A3;have Hrr:=Lib.hid hrr;have Hdo:=Lib.hid hdo
 clear hw3 A3 hV hnl hln hlM Dt Pb hL hL9 hrr hdo HSC HF
 go_upto_region 4 with fail
 rw [<-Hw3.out]
 clear yE f11 ltb
 have LC:=WY H3.out
 obtain⟨la,hla⟩:∃ la,la=lI tt:=⟨_,rfl⟩
 rw [show lI ({ tt with list:=l }:aJ)=la from hla.symm] at LC
 obtain⟨W1,hW1⟩:∃ W1,W1=w64 (2*mm):=⟨_,rfl⟩
 obtain⟨W2,hW2⟩:∃ W2,W2=w64 (2*la):=⟨_,rfl⟩
 have e1:IntKind.i64.wrap (2*mm)=W1:=hW1.symm
 have e2:IntKind.i64.wrap (2*la)=W2:=hW2.symm
 have HL:=Lib.hid LC
 have Hdo2:=Lib.hid (show vM c t { tt with list:=l,key:=[W1,W2] } R.1 by rw [hW1,hW2,hla];exact Hdo.out)
 obtain⟨_,_,_,_,_,BA⟩:∃ G K PV LV KV,w3.cell? ⟨B.I.tb,B.I.pre.length+12,none⟩=some KV:=by obtain⟨G,K,PV,LV,KV,h9⟩:=H3.out.get (i:=12) (by omega);exact⟨G,K,PV,LV,KV,h9⟩
 have f12:=H3.out.frozen (B.I.pre.length+12)
 have ltb:=H3.out.lt
 clear LC hla hW1 hW2 Hdo
 go_wp2_with (go_at_call 93;refine HL.out.mono ?_;rintro e w6 ⟨rfl,hb6⟩;have y12:=(hb6.cell (p:=⟨B.I.tb,B.I.pre.length+12,none⟩) ltb).trans BA;have yf:=(hb6.frozen (p:=⟨B.I.tb,B.I.pre.length+12,none⟩) ltb).trans f12;have Pv:B.I.tb<w6.heap.size:=Nat.lt_of_lt_of_le ltb hb6.size)
 ((refine bodyPost_ret (results_none rfl _ _ _) rfl ?_))
 refine⟨rfl,{ tt with list:=l,key:=[W1,W2] },?_,Hdo2.out⟩
 rw [<-Hrr.out]
 have hnew:wQ B (w6.alloc (.cells #[.int .i64 W1,.int .i64 W2] 3)) { tt with list:=l } rr (.slice (some ⟨w6.heap.size,0,none⟩) 2 2) [W1,W2]:=H3.out.newL (l:=[W1,W2]) (c:=2) (hb6.alloc hb6.size _) ⟨by unfold maxLen;simp,λj hj=>⟨w6.heap.size,0,rfl,by simp,λf hf=>by
  obtain rfl:f=0:=by omega
  rw [iI]
  have hj':j=0∨j=1:=by simp at hj;omega
  rcases hj' with rfl|rfl<;>rfl⟩⟩ (λe=>by cases e) (λb off e=>by cases e;exact hb6.size)
 have h9:=hnew.putKey
 rw [World.setCell_alloc_past _ _ _ _ Pv] at h9
 exact h9
end
end Go.Proofs.YtfkokppncipgnaaGreat
