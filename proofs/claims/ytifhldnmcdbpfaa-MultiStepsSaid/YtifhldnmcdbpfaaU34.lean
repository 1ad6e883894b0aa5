/- Layer 16: multi.Play. -/
import Derived.Test.YtifhldnmcdbpfaaU33
set_option maxRecDepth 100000
set_option linter.unusedVariables false
set_option linter.unusedSimpArgs false
set_option linter.unnecessarySimpa false
namespace Go.Proofs.Ytifhldnmcdbpfaa
open Go.RowKit
def zY (n m q:Nat) (w w':World) (e:Ending):Prop:=
 e=.returned (.pointer (some ⟨w.heap.size+1,0,none⟩))/\Below w.heap.size w w'/\w'.heap.size=w.heap.size+2/\w'.heap[w.heap.size+1]?=some (.cells (jM n m q w.heap.size) 89 (0,0))/\MapOf (.int .i64 0) w' w.heap.size 0 (usM (List.replicate 16 0))
theorem ML:usM (List.replicate 16 0)=λ_=>none:=by
 funext k
 unfold usM
 rw [show(List.replicate 16 0).getD k.toNat 0=0 from iV,if_neg (λh=>h.2 rfl)]
theorem PO (n m q:Nat) (w:World):Calls Try.prog 31 #[.int .i64 0,.int .i64 (n:Int),.int .i64 (m:Int),.int .i64 (q:Int)] w λe w'=>zY n m q w w' e:=by
 obtain⟨w1,hw1⟩:∃ w1,w1=w.alloc (.map #[] 0):=⟨_,rfl⟩
 obtain⟨wb,hwb⟩:∃ wb,wb=w1.alloc (.cells (jM n m q w.heap.size) 89):=⟨_,rfl⟩
 have hs1:w1.heap.size=w.heap.size+1:=by rw [hw1];simp
 have hg2:Below w1.heap.size w1 wb:=by rw [hwb];exact Gr.new _ _
 have hM:MapOf (.int .i64 0) wb w.heap.size 0 (usM (List.replicate 16 0)):=by
  rw [ML]
  have h1:MapOf (.int .i64 0) w1 w.heap.size 0 (λ_=>none):=by rw [hw1];exact MapOf.made _ _
  exact h1.block (hg2.block _ h1.lt)
 have F:=Lib.hid (show zY n m q w wb (.returned (.pointer (some ⟨w.heap.size+1,0,none⟩))) from by
  refine⟨rfl,Gr.trans (by rw [hw1];exact Gr.new _ _) hg2,by rw [hwb];simp;omega,?_,hM⟩
  rw [hwb,<-hs1];exact heap_alloc_new _ _)
 have Hwb:=Lib.hid (show wb=(w.alloc (.map #[] 0)).alloc (.cells #[.int .i64 0,.int .i64 (n:Int),.int .i64 (m:Int),.int .i64 (q:Int),.map (some w.heap.size)] 89) from by rw [hwb,hw1];rfl)
 have hmm:=@run_makeMap Try.prog
 clear hw1 hwb hs1 hg2 hM
 go_enter Try.func31,Try.ntmps31
 go_wp2
 rw [<-Hwb.out]
 go_ret
 exact F.out
def bF (n m q:Nat):Nat:=m+n*q*(m+1)
theorem qL {n m q:Nat} (hn:n<=16) (hm:m<=16) (hq:q<=64):bF n m q<=20000:=by
 have h1:n*q<=16*64:=Nat.mul_le_mul hn hq
 have h2:n*q*(m+1)<=(16*64)*17:=Nat.mul_le_mul h1 (by omega)
 unfold bF;omega
theorem MH (n m q:Nat) (hn:n<=16) (hmm:m<=16) (hqq:q<=64) (w:World):Calls Try.prog 32 #[.int .i64 (n:Int),.int .i64 (m:Int),.int .i64 (q:Int)] w λe w'=>e=.returned (.int .i64 ((bF n m q:Nat):Int))/\Below w.heap.size w w':=by
 obtain⟨a,ha⟩:∃ a:Nat,a=n*q:=⟨_,rfl⟩
 have hml:a<=1024:=by
  have:n*q<=16*64:=Nat.mul_le_mul hn hqq
  omega
 obtain⟨b,hb⟩:∃ b:Nat,b=a*(m+1):=⟨_,rfl⟩
 have hbl:b<=100000:=by
  have:a*(m+1)<=1024*17:=Nat.mul_le_mul hml (by omega)
  omega
 have em:(n:Int)*(q:Int)=(a:Int):=by rw [ha];simp
 have eq:(a:Int)*((m:Int)+1)=(b:Int):=by rw [hb];simp
 have w1:IntKind.i64.wrap ((n:Int)*(q:Int))=(a:Int):=by rw [em,IntKind.wrap_i64];omega
 have w2:IntKind.i64.wrap ((m:Int)+1)=(m:Int)+1:=by rw [IntKind.wrap_i64];omega
 have w3:IntKind.i64.wrap ((a:Int)*((m:Int)+1))=(b:Int):=by rw [eq,IntKind.wrap_i64];omega
 have w4:IntKind.i64.wrap ((m:Int)+(b:Int))=(m:Int)+(b:Int):=by rw [IntKind.wrap_i64];omega
 have E:=Lib.hid (show((bF n m q:Nat):Int)=(m:Int)+(b:Int) by unfold bF;rw [<-ha,<-hb];omega)
 rw [E.out]
 clear ha hml hb hbl em eq hn hmm hqq
 go_enter Try.func32,Try.ntmps32
 go_wp2_with fail
 (try go_quiet (fail))
 go_wp2
 go_ret
 first|exact⟨rfl,Gr.refl _⟩|exact⟨rfl,below_drewN (Gr.refl w) nq⟩
def fM (n m q:Int) (calls:List aF) (np:Nat):Int:=if checkN n calls np≠0 then checkN n calls np else if m<1∨16<m∨q<1∨64<q then 10 else 0
theorem FC {n m q bP bU:Nat} {calls:List aF} {st:aP (aR n m q)} {p:Int} (h:qQ (sS n m q 0 0) calls st p):qQ (sS n m q bP bU) calls st p:=h
set_option maxHeartbeats 4000000 in
theorem zZ (X:Nat->Prop) (w:World) (n m q:Int) (calls:List aF) (picks:List Int) (ca pa:Option Addr) (cc pc:Nat) (hX:∀ b,X b->b<w.heap.size) (hc:iX X w ca calls) (hp:lT w pa picks) (hsf:checkN n calls picks.length=0->1<=m->m<=16->1<=q->q<=64->∀ l p k,picks=l++p::k->qQ (sS n.toNat m.toNat q.toNat 0 0) calls (dX (aR n.toNat m.toNat q.toNat) calls (bM (aR n.toNat m.toNat q.toNat) fA (List.replicate (bF n.toNat m.toNat q.toNat) 0) calls) l) p) :
  Calls Try.prog 17 #[.int .i64 n,.int .i64 m,.int .i64 q,.slice ca calls.length cc,.slice pa picks.length pc] w λe w'=>oW X w w' (fM n m q calls picks.length) (iM (aR n.toNat m.toNat q.toNat) fA (List.replicate (bF n.toNat m.toNat q.toNat) 0) calls picks) e:=by
 obtain⟨wa,hwa⟩:∃ wa,wa=w.alloc (.cells #[.slice none 0 0,.slice none 0 0,.int .i64 0,.int .i64 0,.int .i64 0,.int .i64 0,.int .i64 0,.int .i64 0,.int .i64 0] 32):=⟨_,rfl⟩
 have hga:Below w.heap.size w wa:=by rw [hwa];exact Gr.new _ _
 have hra:wa.heap[w.heap.size]?=some (.cells #[.slice none 0 0,.slice none 0 0,.int .i64 0,.int .i64 0,.int .i64 0,.int .i64 0,.int .i64 0,.int .i64 0,.int .i64 0] 32 (0,0)):=by rw [hwa];exact heap_alloc_new _ _
 have hsa:w.heap.size<wa.heap.size:=by rw [hwa];simp
 have C:=Lib.hid (vU n calls picks.length ca pa cc pc wa (hc.sl.grown hga) hp.sl.1 (λx hx=>(hc.ok x hx).thread))
 have Hc:=Lib.hid hc;have Hp:=Lib.hid hp;have HX:=Lib.hid hX
 have Hwa:=Lib.hid hwa;have Hga:=Lib.hid hga;have Hra:=Lib.hid hra
 have hpl:=hp.sl.1
 unfold maxLen at hpl
 have Hsf:=Lib.hid hsf
 clear hc hp hX hwa hga hra hsf
 obtain⟨ck,hck⟩:∃ ck,ck=checkN n calls picks.length:=⟨_,rfl⟩
 rw [<-hck] at C
 have Hck:=Lib.hid hck
 clear hck
 by_cases hc0:ck=0
 ·obtain⟨hn1,hn16⟩:=zD (hc0 ▸ Hck.out).symm
  obtain⟨sz,rfl⟩:∃ sz:Nat,n=(sz:Int):=⟨n.toNat,by omega⟩
  have hs1:1<=sz:=by omega
  have TS:sz<=16:=by omega
  by_cases hkb:m<1∨16<m∨q<1∨64<q
  ·have her:fM (sz:Int) m q calls picks.length=10:=by unfold fM;rw [<-Hck.out,if_neg (by simpa using hc0),if_pos hkb]
   rw [her]
   have Hz:=Lib.hid (show(10:Int)≠0 by decide)
   subst hc0
   clear her
   have hkx:m<1∨(¬ m<1/\16<m)∨(¬ m<1/\¬ 16<m/\q<1)∨(¬ m<1/\¬ 16<m/\¬ q<1/\64<q):=by omega
   rcases hkx with hk1|⟨hk1,hk2⟩|⟨hk1,hk2,hk3⟩|⟨hk1,hk2,hk3,hk4⟩
   ·clear hkb
    go_enter Try.func17,Try.ntmps17
    go_wp2_with fail
    rw [<-Hwa.out]
    refine C.out.mono ?_
    rintro e w1 ⟨rfl,hb1⟩
    have hr1:=(hb1.block _ (aH Hra.out)).trans Hra.out
    have Hb1:=Lib.hid hb1;have Hr1:=Lib.hid hr1
    have g0:w1.cell? ⟨w.heap.size,0,none⟩=some (.slice none 0 0):=by rw [aA hr1];rfl
    have QU:w1.frozen? ⟨w.heap.size,0,none⟩=false:=aC hr1 0
    have g1:w1.cell? ⟨w.heap.size,1,none⟩=some (.slice none 0 0):=by rw [aA hr1];rfl
    have RF:w1.frozen? ⟨w.heap.size,1,none⟩=false:=aC hr1 1
    have g2:w1.cell? ⟨w.heap.size,2,none⟩=some (.int .i64 0):=by rw [aA hr1];rfl
    have RX:w1.frozen? ⟨w.heap.size,2,none⟩=false:=aC hr1 2
    have g3:w1.cell? ⟨w.heap.size,3,none⟩=some (.int .i64 0):=by rw [aA hr1];rfl
    have QP:w1.frozen? ⟨w.heap.size,3,none⟩=false:=aC hr1 3
    have g4:w1.cell? ⟨w.heap.size,4,none⟩=some (.int .i64 0):=by rw [aA hr1];rfl
    have RH:w1.frozen? ⟨w.heap.size,4,none⟩=false:=aC hr1 4
    have g5:w1.cell? ⟨w.heap.size,5,none⟩=some (.int .i64 0):=by rw [aA hr1];rfl
    have SE:w1.frozen? ⟨w.heap.size,5,none⟩=false:=aC hr1 5
    have g6:w1.cell? ⟨w.heap.size,6,none⟩=some (.int .i64 0):=by rw [aA hr1];rfl
    have QH:w1.frozen? ⟨w.heap.size,6,none⟩=false:=aC hr1 6
    have g7:w1.cell? ⟨w.heap.size,7,none⟩=some (.int .i64 0):=by rw [aA hr1];rfl
    have QN:w1.frozen? ⟨w.heap.size,7,none⟩=false:=aC hr1 7
    have g8:w1.cell? ⟨w.heap.size,8,none⟩=some (.int .i64 0):=by rw [aA hr1];rfl
    have QX:w1.frozen? ⟨w.heap.size,8,none⟩=false:=aC hr1 8
    clear hr1 hb1
    go_wp2
    obtain⟨w7,hw7⟩:∃ w7,w7=(((((((((w1.setCell ⟨w.heap.size,0,none⟩ (.slice none 0 0)).setCell ⟨w.heap.size,1,none⟩ (.slice none 0 0)).setCell ⟨w.heap.size,2,none⟩ (.int .i64 0)).setCell ⟨w.heap.size,3,none⟩ (.int .i64 0)).setCell ⟨w.heap.size,4,none⟩ (.int .i64 0)).setCell ⟨w.heap.size,5,none⟩ (.int .i64 0)).setCell ⟨w.heap.size,6,none⟩ (.int .i64 0)).setCell ⟨w.heap.size,7,none⟩ (.int .i64 0)).setCell ⟨w.heap.size,8,none⟩ (.int .i64 0)):=⟨_,rfl⟩
    rw [<-hw7]
    have kD:w7.heap[w.heap.size]?=some (.cells #[.slice none 0 0,.slice none 0 0,.int .i64 0,.int .i64 0,.int .i64 0,.int .i64 0,.int .i64 0,.int .i64 0,.int .i64 0] 32 (0,0)):=by rw [hw7,(aG (aG (aG (aG (aG (aG (aG (aG (aG Hr1.out _ _) _ _) _ _) _ _) _ _) _ _) _ _) _ _) _ _)];rfl
    have dZ:Chg (λb=>b=w.heap.size) w1 w7:=by rw [hw7];exact((((((((((Chg.refl (λb=>b=w.heap.size) w1).setCell (by exact .inl rfl) _).setCell (by exact .inl rfl) _).setCell (by exact .inl rfl) _).setCell (by exact .inl rfl) _).setCell (by exact .inl rfl) _).setCell (by exact .inl rfl) _).setCell (by exact .inl rfl) _).setCell (by exact .inl rfl) _).setCell (by exact .inl rfl) _)
    clear hw7
    have hld:=lF w7 w.heap.size _ kD rfl
    refine bodyPost_ret (v:=.tuple #[.agg #[.slice none 0 0,.slice none 0 0,.int .i64 0,.int .i64 0,.int .i64 0,.int .i64 0,.int .i64 0,.int .i64 0,.int .i64 0],.int .i64 10]) (by simp [results,Try.results17 ,Sem.run_bind,Sem.run_pure,asAddr,hld]) rfl ?_
    have hall:Chg (λb=>w.heap.size<=b) w w7:=((Chg.of_below Hga.out).trans (Chg.of_below Hb1.out)).trans (dZ.mono (λb _ h=>by have h9:b=w.heap.size:=h;omega))
    exact⟨none,0,0,none,0,0,_,rfl,hall.below (λb h=>h) (Nat.le_refl _),.inl ⟨Hz.out,rfl,rfl,rfl,rfl,rfl,rfl,rfl⟩⟩
   ·clear hkb
    go_enter Try.func17,Try.ntmps17
    go_wp2_with fail
    rw [<-Hwa.out]
    refine C.out.mono ?_
    rintro e w1 ⟨rfl,hb1⟩
    have hr1:=(hb1.block _ (aH Hra.out)).trans Hra.out
    have Hb1:=Lib.hid hb1;have Hr1:=Lib.hid hr1
    have g0:w1.cell? ⟨w.heap.size,0,none⟩=some (.slice none 0 0):=by rw [aA hr1];rfl
    have QU:w1.frozen? ⟨w.heap.size,0,none⟩=false:=aC hr1 0
    have g1:w1.cell? ⟨w.heap.size,1,none⟩=some (.slice none 0 0):=by rw [aA hr1];rfl
    have RF:w1.frozen? ⟨w.heap.size,1,none⟩=false:=aC hr1 1
    have g2:w1.cell? ⟨w.heap.size,2,none⟩=some (.int .i64 0):=by rw [aA hr1];rfl
    have RX:w1.frozen? ⟨w.heap.size,2,none⟩=false:=aC hr1 2
    have g3:w1.cell? ⟨w.heap.size,3,none⟩=some (.int .i64 0):=by rw [aA hr1];rfl
    have QP:w1.frozen? ⟨w.heap.size,3,none⟩=false:=aC hr1 3
    have g4:w1.cell? ⟨w.heap.size,4,none⟩=some (.int .i64 0):=by rw [aA hr1];rfl
    have RH:w1.frozen? ⟨w.heap.size,4,none⟩=false:=aC hr1 4
    have g5:w1.cell? ⟨w.heap.size,5,none⟩=some (.int .i64 0):=by rw [aA hr1];rfl
    have SE:w1.frozen? ⟨w.heap.size,5,none⟩=false:=aC hr1 5
    have g6:w1.cell? ⟨w.heap.size,6,none⟩=some (.int .i64 0):=by rw [aA hr1];rfl
    have QH:w1.frozen? ⟨w.heap.size,6,none⟩=false:=aC hr1 6
    have g7:w1.cell? ⟨w.heap.size,7,none⟩=some (.int .i64 0):=by rw [aA hr1];rfl
    have QN:w1.frozen? ⟨w.heap.size,7,none⟩=false:=aC hr1 7
    have g8:w1.cell? ⟨w.heap.size,8,none⟩=some (.int .i64 0):=by rw [aA hr1];rfl
    have QX:w1.frozen? ⟨w.heap.size,8,none⟩=false:=aC hr1 8
    clear hr1 hb1
    go_wp2
    obtain⟨w7,hw7⟩:∃ w7,w7=(((((((((w1.setCell ⟨w.heap.size,0,none⟩ (.slice none 0 0)).setCell ⟨w.heap.size,1,none⟩ (.slice none 0 0)).setCell ⟨w.heap.size,2,none⟩ (.int .i64 0)).setCell ⟨w.heap.size,3,none⟩ (.int .i64 0)).setCell ⟨w.heap.size,4,none⟩ (.int .i64 0)).setCell ⟨w.heap.size,5,none⟩ (.int .i64 0)).setCell ⟨w.heap.size,6,none⟩ (.int .i64 0)).setCell ⟨w.heap.size,7,none⟩ (.int .i64 0)).setCell ⟨w.heap.size,8,none⟩ (.int .i64 0)):=⟨_,rfl⟩
    rw [<-hw7]
    have kD:w7.heap[w.heap.size]?=some (.cells #[.slice none 0 0,.slice none 0 0,.int .i64 0,.int .i64 0,.int .i64 0,.int .i64 0,.int .i64 0,.int .i64 0,.int .i64 0] 32 (0,0)):=by rw [hw7,(aG (aG (aG (aG (aG (aG (aG (aG (aG Hr1.out _ _) _ _) _ _) _ _) _ _) _ _) _ _) _ _) _ _)];rfl
    have dZ:Chg (λb=>b=w.heap.size) w1 w7:=by rw [hw7];exact((((((((((Chg.refl (λb=>b=w.heap.size) w1).setCell (by exact .inl rfl) _).setCell (by exact .inl rfl) _).setCell (by exact .inl rfl) _).setCell (by exact .inl rfl) _).setCell (by exact .inl rfl) _).setCell (by exact .inl rfl) _).setCell (by exact .inl rfl) _).setCell (by exact .inl rfl) _).setCell (by exact .inl rfl) _)
    clear hw7
    have hld:=lF w7 w.heap.size _ kD rfl
    refine bodyPost_ret (v:=.tuple #[.agg #[.slice none 0 0,.slice none 0 0,.int .i64 0,.int .i64 0,.int .i64 0,.int .i64 0,.int .i64 0,.int .i64 0,.int .i64 0],.int .i64 10]) (by simp [results,Try.results17 ,Sem.run_bind,Sem.run_pure,asAddr,hld]) rfl ?_
    have hall:Chg (λb=>w.heap.size<=b) w w7:=((Chg.of_below Hga.out).trans (Chg.of_below Hb1.out)).trans (dZ.mono (λb _ h=>by have h9:b=w.heap.size:=h;omega))
    exact⟨none,0,0,none,0,0,_,rfl,hall.below (λb h=>h) (Nat.le_refl _),.inl ⟨Hz.out,rfl,rfl,rfl,rfl,rfl,rfl,rfl⟩⟩
   ·clear hkb
    go_enter Try.func17,Try.ntmps17
    go_wp2_with fail
    rw [<-Hwa.out]
    refine C.out.mono ?_
    rintro e w1 ⟨rfl,hb1⟩
    have hr1:=(hb1.block _ (aH Hra.out)).trans Hra.out
    have Hb1:=Lib.hid hb1;have Hr1:=Lib.hid hr1
    have g0:w1.cell? ⟨w.heap.size,0,none⟩=some (.slice none 0 0):=by rw [aA hr1];rfl
    have QU:w1.frozen? ⟨w.heap.size,0,none⟩=false:=aC hr1 0
    have g1:w1.cell? ⟨w.heap.size,1,none⟩=some (.slice none 0 0):=by rw [aA hr1];rfl
    have RF:w1.frozen? ⟨w.heap.size,1,none⟩=false:=aC hr1 1
    have g2:w1.cell? ⟨w.heap.size,2,none⟩=some (.int .i64 0):=by rw [aA hr1];rfl
    have RX:w1.frozen? ⟨w.heap.size,2,none⟩=false:=aC hr1 2
    have g3:w1.cell? ⟨w.heap.size,3,none⟩=some (.int .i64 0):=by rw [aA hr1];rfl
    have QP:w1.frozen? ⟨w.heap.size,3,none⟩=false:=aC hr1 3
    have g4:w1.cell? ⟨w.heap.size,4,none⟩=some (.int .i64 0):=by rw [aA hr1];rfl
    have RH:w1.frozen? ⟨w.heap.size,4,none⟩=false:=aC hr1 4
    have g5:w1.cell? ⟨w.heap.size,5,none⟩=some (.int .i64 0):=by rw [aA hr1];rfl
    have SE:w1.frozen? ⟨w.heap.size,5,none⟩=false:=aC hr1 5
    have g6:w1.cell? ⟨w.heap.size,6,none⟩=some (.int .i64 0):=by rw [aA hr1];rfl
    have QH:w1.frozen? ⟨w.heap.size,6,none⟩=false:=aC hr1 6
    have g7:w1.cell? ⟨w.heap.size,7,none⟩=some (.int .i64 0):=by rw [aA hr1];rfl
    have QN:w1.frozen? ⟨w.heap.size,7,none⟩=false:=aC hr1 7
    have g8:w1.cell? ⟨w.heap.size,8,none⟩=some (.int .i64 0):=by rw [aA hr1];rfl
    have QX:w1.frozen? ⟨w.heap.size,8,none⟩=false:=aC hr1 8
    clear hr1 hb1
    go_wp2
    obtain⟨w7,hw7⟩:∃ w7,w7=(((((((((w1.setCell ⟨w.heap.size,0,none⟩ (.slice none 0 0)).setCell ⟨w.heap.size,1,none⟩ (.slice none 0 0)).setCell ⟨w.heap.size,2,none⟩ (.int .i64 0)).setCell ⟨w.heap.size,3,none⟩ (.int .i64 0)).setCell ⟨w.heap.size,4,none⟩ (.int .i64 0)).setCell ⟨w.heap.size,5,none⟩ (.int .i64 0)).setCell ⟨w.heap.size,6,none⟩ (.int .i64 0)).setCell ⟨w.heap.size,7,none⟩ (.int .i64 0)).setCell ⟨w.heap.size,8,none⟩ (.int .i64 0)):=⟨_,rfl⟩
    rw [<-hw7]
    have kD:w7.heap[w.heap.size]?=some (.cells #[.slice none 0 0,.slice none 0 0,.int .i64 0,.int .i64 0,.int .i64 0,.int .i64 0,.int .i64 0,.int .i64 0,.int .i64 0] 32 (0,0)):=by rw [hw7,(aG (aG (aG (aG (aG (aG (aG (aG (aG Hr1.out _ _) _ _) _ _) _ _) _ _) _ _) _ _) _ _) _ _)];rfl
    have dZ:Chg (λb=>b=w.heap.size) w1 w7:=by rw [hw7];exact((((((((((Chg.refl (λb=>b=w.heap.size) w1).setCell (by exact .inl rfl) _).setCell (by exact .inl rfl) _).setCell (by exact .inl rfl) _).setCell (by exact .inl rfl) _).setCell (by exact .inl rfl) _).setCell (by exact .inl rfl) _).setCell (by exact .inl rfl) _).setCell (by exact .inl rfl) _).setCell (by exact .inl rfl) _)
    clear hw7
    have hld:=lF w7 w.heap.size _ kD rfl
    refine bodyPost_ret (v:=.tuple #[.agg #[.slice none 0 0,.slice none 0 0,.int .i64 0,.int .i64 0,.int .i64 0,.int .i64 0,.int .i64 0,.int .i64 0,.int .i64 0],.int .i64 10]) (by simp [results,Try.results17 ,Sem.run_bind,Sem.run_pure,asAddr,hld]) rfl ?_
    have hall:Chg (λb=>w.heap.size<=b) w w7:=((Chg.of_below Hga.out).trans (Chg.of_below Hb1.out)).trans (dZ.mono (λb _ h=>by have h9:b=w.heap.size:=h;omega))
    exact⟨none,0,0,none,0,0,_,rfl,hall.below (λb h=>h) (Nat.le_refl _),.inl ⟨Hz.out,rfl,rfl,rfl,rfl,rfl,rfl,rfl⟩⟩
   ·clear hkb
    go_enter Try.func17,Try.ntmps17
    go_wp2_with fail
    rw [<-Hwa.out]
    refine C.out.mono ?_
    rintro e w1 ⟨rfl,hb1⟩
    have hr1:=(hb1.block _ (aH Hra.out)).trans Hra.out
    have Hb1:=Lib.hid hb1;have Hr1:=Lib.hid hr1
    have g0:w1.cell? ⟨w.heap.size,0,none⟩=some (.slice none 0 0):=by rw [aA hr1];rfl
    have QU:w1.frozen? ⟨w.heap.size,0,none⟩=false:=aC hr1 0
    have g1:w1.cell? ⟨w.heap.size,1,none⟩=some (.slice none 0 0):=by rw [aA hr1];rfl
    have RF:w1.frozen? ⟨w.heap.size,1,none⟩=false:=aC hr1 1
    have g2:w1.cell? ⟨w.heap.size,2,none⟩=some (.int .i64 0):=by rw [aA hr1];rfl
    have RX:w1.frozen? ⟨w.heap.size,2,none⟩=false:=aC hr1 2
    have g3:w1.cell? ⟨w.heap.size,3,none⟩=some (.int .i64 0):=by rw [aA hr1];rfl
    have QP:w1.frozen? ⟨w.heap.size,3,none⟩=false:=aC hr1 3
    have g4:w1.cell? ⟨w.heap.size,4,none⟩=some (.int .i64 0):=by rw [aA hr1];rfl
    have RH:w1.frozen? ⟨w.heap.size,4,none⟩=false:=aC hr1 4
    have g5:w1.cell? ⟨w.heap.size,5,none⟩=some (.int .i64 0):=by rw [aA hr1];rfl
    have SE:w1.frozen? ⟨w.heap.size,5,none⟩=false:=aC hr1 5
    have g6:w1.cell? ⟨w.heap.size,6,none⟩=some (.int .i64 0):=by rw [aA hr1];rfl
    have QH:w1.frozen? ⟨w.heap.size,6,none⟩=false:=aC hr1 6
    have g7:w1.cell? ⟨w.heap.size,7,none⟩=some (.int .i64 0):=by rw [aA hr1];rfl
    have QN:w1.frozen? ⟨w.heap.size,7,none⟩=false:=aC hr1 7
    have g8:w1.cell? ⟨w.heap.size,8,none⟩=some (.int .i64 0):=by rw [aA hr1];rfl
    have QX:w1.frozen? ⟨w.heap.size,8,none⟩=false:=aC hr1 8
    clear hr1 hb1
    go_wp2
    obtain⟨w7,hw7⟩:∃ w7,w7=(((((((((w1.setCell ⟨w.heap.size,0,none⟩ (.slice none 0 0)).setCell ⟨w.heap.size,1,none⟩ (.slice none 0 0)).setCell ⟨w.heap.size,2,none⟩ (.int .i64 0)).setCell ⟨w.heap.size,3,none⟩ (.int .i64 0)).setCell ⟨w.heap.size,4,none⟩ (.int .i64 0)).setCell ⟨w.heap.size,5,none⟩ (.int .i64 0)).setCell ⟨w.heap.size,6,none⟩ (.int .i64 0)).setCell ⟨w.heap.size,7,none⟩ (.int .i64 0)).setCell ⟨w.heap.size,8,none⟩ (.int .i64 0)):=⟨_,rfl⟩
    rw [<-hw7]
    have kD:w7.heap[w.heap.size]?=some (.cells #[.slice none 0 0,.slice none 0 0,.int .i64 0,.int .i64 0,.int .i64 0,.int .i64 0,.int .i64 0,.int .i64 0,.int .i64 0] 32 (0,0)):=by rw [hw7,(aG (aG (aG (aG (aG (aG (aG (aG (aG Hr1.out _ _) _ _) _ _) _ _) _ _) _ _) _ _) _ _) _ _)];rfl
    have dZ:Chg (λb=>b=w.heap.size) w1 w7:=by rw [hw7];exact((((((((((Chg.refl (λb=>b=w.heap.size) w1).setCell (by exact .inl rfl) _).setCell (by exact .inl rfl) _).setCell (by exact .inl rfl) _).setCell (by exact .inl rfl) _).setCell (by exact .inl rfl) _).setCell (by exact .inl rfl) _).setCell (by exact .inl rfl) _).setCell (by exact .inl rfl) _).setCell (by exact .inl rfl) _)
    clear hw7
    have hld:=lF w7 w.heap.size _ kD rfl
    refine bodyPost_ret (v:=.tuple #[.agg #[.slice none 0 0,.slice none 0 0,.int .i64 0,.int .i64 0,.int .i64 0,.int .i64 0,.int .i64 0,.int .i64 0,.int .i64 0],.int .i64 10]) (by simp [results,Try.results17 ,Sem.run_bind,Sem.run_pure,asAddr,hld]) rfl ?_
    have hall:Chg (λb=>w.heap.size<=b) w w7:=((Chg.of_below Hga.out).trans (Chg.of_below Hb1.out)).trans (dZ.mono (λb _ h=>by have h9:b=w.heap.size:=h;omega))
    exact⟨none,0,0,none,0,0,_,rfl,hall.below (λb h=>h) (Nat.le_refl _),.inl ⟨Hz.out,rfl,rfl,rfl,rfl,rfl,rfl,rfl⟩⟩
  ·obtain⟨mm,rfl⟩:∃ mm:Nat,m=(mm:Int):=⟨m.toNat,by omega⟩
   obtain⟨qq,rfl⟩:∃ qq:Nat,q=(qq:Int):=⟨q.toNat,by omega⟩
   have hm1:1<=mm:=by omega
   have VD:mm<=16:=by omega
   have hq1:1<=qq:=by omega
   have hq8:qq<=64:=by omega
   have her:fM (sz:Int) (mm:Int) (qq:Int) calls picks.length=0:=by unfold fM;rw [<-Hck.out,if_neg (by simpa using hc0),if_neg hkb]
   rw [her]
   simp only [Int.toNat_natCast] at Hsf ⊢
   obtain⟨S,hS⟩:∃ S,S=bF sz mm qq:=⟨_,rfl⟩
   have hSl:S<=20000:=by rw [hS];exact qL TS VD hq8
   have P:=Lib.hid (λ(u:World) (bo bw bP bU:Nat) (hu:Below wa.heap.size wa u) (h1:u.cell? ⟨bo,0,none⟩=some (.iface 66 (.pointer (some ⟨bP,0,none⟩)))) (h2:u.heap[bw]?=some (.cells (madeCells #[.int .u64 0] S) 40 (0,0))) (h3:u.heap[bP]?=some (.cells (jM sz mm qq bU) 89 (0,0))) (h4:MapOf (.int .i64 0) u bU 0 (usM (List.replicate 16 0)))
     (hq:wa.heap.size<=bP/\wa.heap.size<=bo/\bo≠bP/\wa.heap.size<=bU/\bo≠bU/\bU≠bP)=>
    (FM (X:=λb=>(X b∨b=w.heap.size)∨(b=bP∨b=bU)) (R:=sS sz mm qq bP bU) (tX sz mm qq bP bU hm1 VD hq1 hq8) (CR sz mm qq bP bU) (by show 1<=1000;omega) u fA sz calls (List.replicate S 0) picks (.slice (some ⟨bo,0,none⟩) 1 1) (.slice ca calls.length cc) (.slice (some ⟨bw,0,none⟩) (List.replicate S 0).length S) pa pc
     ⟨⟨ca,cc,rfl,Hc.out.sl.grown (Gr.trans Hga.out hu),λhl b off e hx=>by
      obtain⟨b0,zR,e0,hb0⟩:=Hc.out.sl.lt hl
      rcases hx with(hx|hx)|hx|hx
      ·exact Hc.out.nx hl b off e hx
      ·rw [e0] at e;cases e;omega
      ·rw [e0] at e;cases e;omega
      ·rw [e0] at e;cases e;omega⟩,Hc.out.ok,⟨bo,0,1,rfl,h1,λhx=>by rcases hx with(hx|hx)|hx|hx;have:=HX.out bo hx;omega;omega;omega;omega⟩,⟨_,S,rfl,vQ h2 (by omega),λe=>by cases e⟩,by rw [List.length_replicate];omega,λx hx=>by rw [(List.mem_replicate.1 hx).2];omega,λb hb=>.inr hb,
      λv M hv hM=>⟨(hv.block _ (aH h3)).trans h3,by simp [fA],h4.block (hv.block _ h4.lt),hq.2.2.2.2.2,hM bP (.inl rfl),hM bU (.inr rfl)⟩,trivial,λb hx=>by
       have:=hu.size
       rcases hx with(hx|hx)|hx|hx
       ·have:=HX.out b hx;omega
       ·omega
       ·rw [hx];exact aH h3
       ·rw [hx];exact h4.lt⟩ (Hp.out.sl.grown (Gr.trans Hga.out hu)) (λhl b off e hx=>by
      obtain⟨b0,zR,e0,hb0⟩:=Hp.out.sl.lt hl
      rw [e0] at e;cases e
      have hx:b=bP∨b=bU:=hx
      omega) Hp.out.ok (λh l p k hl=>by rw [hS];exact FC (Hsf.out h (by omega) (by omega) (by omega) (by omega) l p k hl))).mono (λe w' h=>(⟨sG.ret h (X':=λb=>X b∨b=w.heap.size) hu (λb hb=>by have hb:b=bP∨b=bU:=hb;omega) (λb hb=>.inl hb),Gr.refl _⟩:oW (λb=>X b∨b=w.heap.size) wa w' (checkN sz calls picks.length) (iM (aR sz mm qq) fA (List.replicate S 0) calls picks) e/\Below wa.heap.size wa wa)))
   have N:=Lib.hid (PO sz mm qq)
   have Z:=Lib.hid (MH sz mm qq TS VD hq8)
   rw [<-hS] at Z
   have hmk:=sK S (S:Int) rfl (by omega)
   rw [<-hS]
   obtain⟨rr,hrr⟩:∃ rr,rr=iM (aR sz mm qq) fA (List.replicate S 0) calls picks:=⟨_,rfl⟩
   rw [<-Hck.out,hc0,<-hrr] at P
   rw [<-hrr]
   simp only [List.length_replicate] at P
   have l1:¬ (mm:Int)<1:=by omega
   have l2:¬ (16:Int)<(mm:Int):=by omega
   have l3:¬ (qq:Int)<1:=by omega
   have l4:¬ (64:Int)<(qq:Int):=by omega
   subst hc0
   clear hrr her hS hkb VD hq8 hSl
   go_enter Try.func17,Try.ntmps17
   go_wp2_with fail
   rw [<-Hwa.out]
   refine C.out.mono ?_
   rintro e w1 ⟨rfl,hb1⟩
   have Hb1:=Lib.hid hb1
   clear hb1
   go_wp2_with fail
   refine(N.out _).mono ?_
   rintro e w2 ⟨rfl,hb2,hs2,hP2,hM2⟩
   have ZM:=Hb1.out.size
   obtain⟨bU,hbU⟩:∃ bU,bU=w1.heap.size:=⟨_,rfl⟩
   obtain⟨bP,hbP⟩:∃ bP,bP=w1.heap.size+1:=⟨_,rfl⟩
   rw [<-hbP,<-hbU] at hP2
   rw [<-hbU] at hM2
   rw [<-hbP]
   have Hb2:=Lib.hid hb2;have Hs2:=Lib.hid hs2;have HP2:=Lib.hid hP2;have HbP:=Lib.hid hbP;have HbU:=Lib.hid hbU;have HM2:=Lib.hid hM2
   clear hb2 hs2 hP2 hbP hbU hM2
   go_wp2_with fail
   refine(Z.out _).mono ?_
   rintro e w3 ⟨rfl,hb3⟩
   have Hb3:=Lib.hid hb3
   clear hb3
   go_wp2_with fail
   have hb3:=Hb3.out
   have hs3:=hb3.size
   simp only [World.size_alloc] at hs3
   have hs2:=Hs2.out;have hbP:=HbP.out;have hbU:=HbU.out
   obtain⟨w5,vC⟩:∃ w5,w5=w3.alloc (.cells (madeCells #[.int .u64 0] S) 40):=⟨_,rfl⟩
   have g35:Below w3.heap.size w3 w5:=by rw [vC];exact Gr.new _ _
   have g25:Below w2.heap.size w2 w5:=Gr.trans (Gr.new _ _) (Gr.trans hb3 g35)
   have h1:w5.cell? ⟨w2.heap.size,0,none⟩=some (.iface 66 (.pointer (some ⟨bP,0,none⟩))):=((Gr.trans hb3 g35).cell (p:=⟨w2.heap.size,0,none⟩) (by simp)).trans (by rw [gY];rfl)
   have h2:w5.heap[w3.heap.size]?=some (.cells (madeCells #[.int .u64 0] S) 40 (0,0)):=by rw [vC];exact heap_alloc_new _ _
   have P5:=P.out w5 w2.heap.size w3.heap.size bP bU (Gr.trans Hb1.out (Gr.trans Hb2.out g25)) h1 h2 ((g25.block _ (aH HP2.out)).trans HP2.out) (HM2.out.block (g25.block _ HM2.out.lt)) ⟨by omega,by omega,by omega,by omega,by omega,by omega⟩
   rw [vC] at P5
   refine P5.mono ?_
   rintro e w4 ⟨⟨ea,en,ec,va,vn,vc,rp,rfl,hrest⟩,hu⟩
   have hr4:=(hrest.1.block w.heap.size (aH Hra.out)).trans Hra.out
   obtain⟨cs,w7,hcs,hsz,hst,TJ,dZ⟩:=FE w4 w.heap.size (.slice ea en ec) (.slice va vn vc) rp hr4 rfl rfl
   rw [hcs]
   have Hcs:=Lib.hid hcs;have Hbk7:=Lib.hid TJ;have Hch7:=Lib.hid dZ;have Hrest:=Lib.hid hrest;have Hu:=Lib.hid hu
   clear hr4 hrest hu hcs TJ dZ hb3 hs3 hs2 hbP hbU vC g35 g25 h1 h2 P5
   go_wp2
   have hld:=lF w7 w.heap.size cs Hbk7.out hsz
   refine bodyPost_ret (v:=.tuple #[.agg cs,.int .i64 0]) (by simp [results,Try.results17 ,Sem.run_bind,Sem.run_pure,asAddr,hld]) rfl ?_
   refine⟨ea,en,ec,va,vn,vc,rp,by rw [Hcs.out],nE.chg Hrest.out Hch7.out (λb hb=>?_) (Gr.trans Hga.out Hu.out) (λb hb=>.inl hb)⟩
   have hb':b=w.heap.size:=hb
   exact⟨.inr hb',by omega,by have:=Hu.out.size;omega⟩
 ·have her:fM n m q calls picks.length=ck:=by unfold fM;rw [<-Hck.out,if_pos (by simpa using hc0)]
  rw [her]
  have Her0:=Lib.hid hc0
  clear her
  go_enter Try.func17,Try.ntmps17
  go_wp2_with fail
  rw [<-Hwa.out]
  refine C.out.mono ?_
  rintro e w1 ⟨rfl,hb1⟩
  have hr1:=(hb1.block _ (aH Hra.out)).trans Hra.out
  have Hb1:=Lib.hid hb1;have Hr1:=Lib.hid hr1
  have g0:w1.cell? ⟨w.heap.size,0,none⟩=some (.slice none 0 0):=by rw [aA hr1];rfl
  have QU:w1.frozen? ⟨w.heap.size,0,none⟩=false:=aC hr1 0
  have g1:w1.cell? ⟨w.heap.size,1,none⟩=some (.slice none 0 0):=by rw [aA hr1];rfl
  have RF:w1.frozen? ⟨w.heap.size,1,none⟩=false:=aC hr1 1
  have g2:w1.cell? ⟨w.heap.size,2,none⟩=some (.int .i64 0):=by rw [aA hr1];rfl
  have RX:w1.frozen? ⟨w.heap.size,2,none⟩=false:=aC hr1 2
  have g3:w1.cell? ⟨w.heap.size,3,none⟩=some (.int .i64 0):=by rw [aA hr1];rfl
  have QP:w1.frozen? ⟨w.heap.size,3,none⟩=false:=aC hr1 3
  have g4:w1.cell? ⟨w.heap.size,4,none⟩=some (.int .i64 0):=by rw [aA hr1];rfl
  have RH:w1.frozen? ⟨w.heap.size,4,none⟩=false:=aC hr1 4
  have g5:w1.cell? ⟨w.heap.size,5,none⟩=some (.int .i64 0):=by rw [aA hr1];rfl
  have SE:w1.frozen? ⟨w.heap.size,5,none⟩=false:=aC hr1 5
  have g6:w1.cell? ⟨w.heap.size,6,none⟩=some (.int .i64 0):=by rw [aA hr1];rfl
  have QH:w1.frozen? ⟨w.heap.size,6,none⟩=false:=aC hr1 6
  have g7:w1.cell? ⟨w.heap.size,7,none⟩=some (.int .i64 0):=by rw [aA hr1];rfl
  have QN:w1.frozen? ⟨w.heap.size,7,none⟩=false:=aC hr1 7
  have g8:w1.cell? ⟨w.heap.size,8,none⟩=some (.int .i64 0):=by rw [aA hr1];rfl
  have QX:w1.frozen? ⟨w.heap.size,8,none⟩=false:=aC hr1 8
  clear hr1 hb1
  go_wp2
  obtain⟨w7,hw7⟩:∃ w7,w7=(((((((((w1.setCell ⟨w.heap.size,0,none⟩ (.slice none 0 0)).setCell ⟨w.heap.size,1,none⟩ (.slice none 0 0)).setCell ⟨w.heap.size,2,none⟩ (.int .i64 0)).setCell ⟨w.heap.size,3,none⟩ (.int .i64 0)).setCell ⟨w.heap.size,4,none⟩ (.int .i64 0)).setCell ⟨w.heap.size,5,none⟩ (.int .i64 0)).setCell ⟨w.heap.size,6,none⟩ (.int .i64 0)).setCell ⟨w.heap.size,7,none⟩ (.int .i64 0)).setCell ⟨w.heap.size,8,none⟩ (.int .i64 0)):=⟨_,rfl⟩
  rw [<-hw7]
  have kD:w7.heap[w.heap.size]?=some (.cells #[.slice none 0 0,.slice none 0 0,.int .i64 0,.int .i64 0,.int .i64 0,.int .i64 0,.int .i64 0,.int .i64 0,.int .i64 0] 32 (0,0)):=by rw [hw7,(aG (aG (aG (aG (aG (aG (aG (aG (aG Hr1.out _ _) _ _) _ _) _ _) _ _) _ _) _ _) _ _) _ _)];rfl
  have dZ:Chg (λb=>b=w.heap.size) w1 w7:=by rw [hw7];exact((((((((((Chg.refl (λb=>b=w.heap.size) w1).setCell (by exact .inl rfl) _).setCell (by exact .inl rfl) _).setCell (by exact .inl rfl) _).setCell (by exact .inl rfl) _).setCell (by exact .inl rfl) _).setCell (by exact .inl rfl) _).setCell (by exact .inl rfl) _).setCell (by exact .inl rfl) _).setCell (by exact .inl rfl) _)
  clear hw7
  have hld:=lF w7 w.heap.size _ kD rfl
  refine bodyPost_ret (v:=.tuple #[.agg #[.slice none 0 0,.slice none 0 0,.int .i64 0,.int .i64 0,.int .i64 0,.int .i64 0,.int .i64 0,.int .i64 0,.int .i64 0],.int .i64 ck]) (by simp [results,Try.results17 ,Sem.run_bind,Sem.run_pure,asAddr,hld]) rfl ?_
  have hall:Chg (λb=>w.heap.size<=b) w w7:=((Chg.of_below Hga.out).trans (Chg.of_below Hb1.out)).trans (dZ.mono (λb _ h=>by have h9:b=w.heap.size:=h;omega))
  exact⟨none,0,0,none,0,0,_,rfl,hall.below (λb h=>h) (Nat.le_refl _),.inl ⟨Her0.out,rfl,rfl,rfl,rfl,rfl,rfl,rfl⟩⟩
end Go.Proofs.Ytifhldnmcdbpfaa
