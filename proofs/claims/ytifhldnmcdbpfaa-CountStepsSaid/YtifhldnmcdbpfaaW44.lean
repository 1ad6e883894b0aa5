/- Layer 11: count.Play. -/
import Derived.Test.YtifhldnmcdbpfaaW39
set_option maxRecDepth 100000
set_option linter.unusedVariables false
set_option linter.unusedSimpArgs false
set_option linter.unnecessarySimpa false
namespace Go.Proofs.Ytifhldnmcdbpfaa
open Go.RowKit
def tF (n m:Nat) (w w':World) (e:Ending):Prop:=
 e=.returned (.pointer (some ⟨w.heap.size+1,0,none⟩))/\Below w.heap.size w w'/\w'.heap.size=w.heap.size+2/\w'.heap[w.heap.size+1]?=some (.cells (ctL n m (aJ n) (lM w.heap.size n)) 80 (0,0))/\w'.heap[w.heap.size]?=some (.cells (jE (List.replicate n 0)) 40 (0,0))
theorem DV (n:Nat):madeCells #[.int .u64 0] n=jE (List.replicate n 0):=by
 rw [mI];unfold jE;rw [List.map_replicate];rfl
theorem tN {n L:Nat} (h:¬ L<n):∀ f,wT n f L=L
 | 0=>rfl
 | _+1=>if_neg h
theorem LY (n m:Nat) (hn:n<=16) (w:World):Calls Try.prog 26 #[.int .i64 0,.int .i64 (n:Int),.int .i64 (m:Int)] w λe w'=>tF n m w w' e:=by
 have hmk:=sZ n (n:Int) rfl (by omega)
 go_enter Try.func26,Try.ntmps26
 go_wp2
 go_loopw [7] (λl wr=>∃ L f:Nat,l=.int .i64 (L:Int)/\wr=w/\L*2^f=32/\1<=L/\wT n f L=aJ n) (λl _=>32 - (intOf l).toNat)
 case atStart=>exact⟨1,5,rfl,(by first|rfl|trivial),rfl,by decide,rfl⟩
 case round=>
  obtain⟨L,f,rfl,hwr,hf,hL1,hup⟩:=hrel
  have hwr2:=hwr.symm
  clear hwr
  subst hwr2
  by_cases hlt:L<n
  ·have l1:(L:Int)<(n:Int):=by omega
   have wL:IntKind.i64.wrap ((L:Int)*2)=(L:Int)*2:=by rw [IntKind.wrap_i64];omega
   obtain⟨g,rfl⟩:∃ g,f=g+1:=⟨f - 1,by
    cases f with
    | zero=>omega
    | succ g=>rfl⟩
   have H:=Lib.hid (show(2*L)*2^g=32/\wT n g (2*L)=aJ n from⟨by rw [Nat.pow_succ] at hf;rw [Nat.mul_comm 2 L,Nat.mul_assoc,Nat.mul_comm 2];exact hf,by rw [<-hup];exact(if_pos hlt).symm⟩)
   clear hf hup hlt hmk
   go_wp2
   go_roundw
   case rel=>exact⟨2*L,g,by go_num,(by first|rfl|trivial),H.out.1,by omega,H.out.2⟩
   case measure=>simp [intOf]<;>omega
  ·have l1:¬ (L:Int)<(n:Int):=by omega
   rw [tN hlt] at hup
   obtain⟨wb,hwb⟩:∃ wb,wb=(w.alloc (.cells (madeCells #[.int .u64 0] n) 40)).alloc (.cells (ctL n m L (lM w.heap.size n)) 80):=⟨_,rfl⟩
   have F:=Lib.hid (show tF n m w wb (.returned (.pointer (some ⟨w.heap.size+1,0,none⟩))) from by
    unfold tF
    rw [<-hup]
    refine⟨rfl,by rw [hwb];exact Gr.alloc (Gr.new _ _) _,by rw [hwb];simp,?_,?_⟩
    ·have h9:=heap_alloc_new (w.alloc (.cells (madeCells #[.int .u64 0] n) 40)) (.cells (ctL n m L (lM w.heap.size n)) 80 (0,0))
     simp only [World.size_alloc] at h9
     rw [hwb];exact h9
    ·rw [hwb,Below.heap_alloc _ _ _ (by simp),<-DV];exact heap_alloc_new _ _)
   have Hwb:=Lib.hid (show wb=(w.alloc (.cells (madeCells #[.int .u64 0] n) 40)).alloc (.cells #[.int .i64 0,.int .i64 (n:Int),.int .i64 (m:Int),.int .i64 (L:Int),.slice (some ⟨w.heap.size,0,none⟩) n n] 80) from hwb)
   clear hf hL1 hup hlt hwb
   go_wp2
   rw [<-Hwb.out]
   go_ret
   exact F.out
def fV (n m:Nat):Nat:=n+(aJ n - 1)*(2^m - 1)
theorem LG {n m:Nat} (hn:n<=16) (hm:m<=8):fV n m<=20000:=by
 have h2:=(bL hn).2.2
 have hp:2^m<=256:=Nat.pow_le_pow_right (n:=2) (by decide) hm
 have h1:(aJ n - 1)*(2^m - 1)<=15*255:=Nat.mul_le_mul (by omega) (by omega)
 unfold fV;omega
theorem IB (n m bP:Nat) (ov:Value) (hn:n<=16) (hm:m<=8) (w:World) (hP:w.heap[bP]?=some (.cells (ctL n m (aJ n) ov) 80 (0,0))):Calls Try.prog 28 #[.pointer (some ⟨bP,0,none⟩)] w λe w'=>e=.returned (.int .i64 ((fV n m:Nat):Int))/\Below w.heap.size w w':=by
 obtain⟨L,hL⟩:∃ L,L=aJ n:=⟨_,rfl⟩
 have hl2:=(bL hn).2.2
 have hl1:=(bL hn).2.1
 have hp:2^m<=256:=Nat.pow_le_pow_right (n:=2) (by decide) hm
 have SZ:=Lib.hid (λ(g:gY w)=>((rG m (by omega) g.u).mono (λe w' h=>⟨h.1,by rw [<-h.2];exact Gr.refl _⟩):Calls Try.prog 44 #[.int .i64 (m:Int)] g.u λe w'=>e=.returned (.int .i64 ((2^m - 1:Nat):Int))/\Below g.u.heap.size g.u w'))
 obtain⟨S,hS⟩:∃ S,S=2^m - 1:=⟨_,rfl⟩
 rw [<-hL] at hP hl1 hl2
 have hSl:(L - 1)*S<=15*255:=Nat.mul_le_mul (by omega) (by omega)
 obtain⟨q,hq⟩:∃ q,q=(L - 1)*S:=⟨_,rfl⟩
 have w1:IntKind.i64.wrap ((L:Int) - 1)=(L:Int) - 1:=by rw [IntKind.wrap_i64];omega
 have eq:((L:Int) - 1)*(S:Int)=(q:Int):=by rw [hq,show(L:Int) - 1=((L - 1:Nat):Int) by omega];simp
 have w2:IntKind.i64.wrap (((L:Int) - 1)*(S:Int))=(q:Int):=by rw [eq,IntKind.wrap_i64];omega
 have w3:IntKind.i64.wrap ((n:Int)+(q:Int))=(n:Int)+(q:Int):=by rw [IntKind.wrap_i64];omega
 have E:=Lib.hid (show((fV n m:Nat):Int)=(n:Int)+(q:Int) by unfold fV;rw [<-hL,<-hS,<-hq];omega)
 rw [E.out]
 rw [<-hS] at SZ
 have u1:w.cell? ⟨bP,1,none⟩=some (.int .i64 (n:Int)):=by rw [aA hP];rfl
 have u2:w.cell? ⟨bP,2,none⟩=some (.int .i64 (m:Int)):=by rw [aA hP];rfl
 have u3:w.cell? ⟨bP,3,none⟩=some (.int .i64 (L:Int)):=by rw [aA hP];rfl
 have E1:=dY u1;have E2:=dY u2;have E3:=dY u3
 clear hL hl1 hl2 hp hS hSl hq eq hP hn hm
 go_enter Try.func28,Try.ntmps28
 go_upto_region 1 with fail
 ((with_reducible refine fU (by kernel_rfl) (by kernel_rfl) ?_);(repeat ((with_reducible refine wpQuiet_step (λK hK=>?_));go_simp;first|((with_reducible refine hK _ ?_);clear hK K)|((with_reducible apply Exists.intro);(with_reducible refine⟨λ_=>?_,hK _ ?_⟩);((go_at_call 44;first|exact zU (SZ.out _)|exact vS (SZ.out _)));clear hK K)));(with_reducible refine wpQuiet_nil ?_);intro _ hw';obtain⟨nq,hw''⟩:=hw';subst hw'')
 have Hq:=Lib.hid nq.below
 go_wp2
 go_ret
 exact⟨rfl,Hq.out⟩
theorem rF.retC {O X X':Nat->Prop} {w0 w w':World} {er:Int} {r:jC} {e:Ending} (h:rF O X w w' er r e) (hb:Below w0.heap.size w0 w) (hO:∀ b,O b->w0.heap.size<=b) (hX:∀ b,X' b->X b):qX X' w0 w' er r e:=by
 obtain⟨hc,h2⟩:=h
 have hb2:Below w0.heap.size w0 w':=(((Chg.of_below hb).trans (hc.mono (λb _ h=>hO b h)):Chg (λb=>w0.heap.size<=b) w0 w')).below (λb h=>h) (Nat.le_refl _)
 rcases h2 with⟨h0,rfl⟩|⟨h0,ea,ec,va,vc,ers,rfl,hr⟩
 ·exact⟨none,0,0,none,0,0,_,rfl,hb2,.inl ⟨h0,rfl,rfl,rfl,rfl,rfl,rfl,rfl⟩⟩
 ·exact⟨ea,_,ec,va,_,vc,r,by rw [h0],hb2,.inr ⟨h0,rfl,rfl,rfl,ers,hr.low hb.size hX⟩⟩
def fO (n m:Int) (calls:List aF) (np:Nat):Int:=if checkN n calls np≠0 then checkN n calls np else if m<1∨8<m then 10 else 0
theorem EH {n m bP bO:Nat} {calls:List aF} {st:aQ (bH n m)} {p:Int} (h:oO (rM n m 0 0) calls st p):oO (rM n m bP bO) calls st p:=h
set_option maxHeartbeats 4000000 in
theorem yN (X:Nat->Prop) (w:World) (n m:Int) (calls:List aF) (picks:List Int) (ca pa:Option Addr) (cc pc:Nat) (hX:∀ b,X b->b<w.heap.size) (hc:lS X w ca calls) (hp:lT w pa picks) (hsf:checkN n calls picks.length=0->1<=m->m<=8->∀ l p k,picks=l++p::k->oO (rM n.toNat m.toNat 0 0) calls (eH (bH n.toNat m.toNat) calls (bT (bH n.toNat m.toNat) (List.replicate n.toNat 0) (List.replicate (fV n.toNat m.toNat) 0) calls) l) p) :
  Calls Try.prog 12 #[.int .i64 n,.int .i64 m,.slice ca calls.length cc,.slice pa picks.length pc] w λe w'=>qX X w w' (fO n m calls picks.length) (iO (bH n.toNat m.toNat) (List.replicate n.toNat 0) (List.replicate (fV n.toNat m.toNat) 0) calls picks) e:=by
 obtain⟨wa,hwa⟩:∃ wa,wa=w.alloc (.cells #[.slice none 0 0,.slice none 0 0,.int .i64 0,.int .i64 0,.int .i64 0,.int .i64 0,.int .i64 0,.int .i64 0,.int .i64 0] 32):=⟨_,rfl⟩
 have hga:Below w.heap.size w wa:=by rw [hwa];exact Gr.new _ _
 have hra:wa.heap[w.heap.size]?=some (.cells #[.slice none 0 0,.slice none 0 0,.int .i64 0,.int .i64 0,.int .i64 0,.int .i64 0,.int .i64 0,.int .i64 0,.int .i64 0] 32 (0,0)):=by rw [hwa];exact heap_alloc_new _ _
 have hsa:w.heap.size<wa.heap.size:=by rw [hwa];simp
 have C:=Lib.hid (uM n calls picks.length ca pa cc pc wa (hc.sl.grown hga) hp.sl.1 (λx hx=>(hc.ok x hx).thread))
 have Hc:=Lib.hid hc;have Hp:=Lib.hid hp;have HX:=Lib.hid hX
 have Hwa:=Lib.hid hwa;have Hga:=Lib.hid hga;have Hra:=Lib.hid hra
 have hpl:=hp.sl.1
 unfold maxLen at hpl
 have Hsf:=Lib.hid hsf
 clear hc hp hX hwa hga hra hsf
 obtain⟨ck,hck⟩:∃ ck,ck=checkN n calls picks.length:=⟨_,rfl⟩
 rw [<-hck] at C
 have Hck:=Lib.hid hck
 clear hck
 by_cases hc0:ck=0
 ·obtain⟨hn1,hn16⟩:=DZ (hc0 ▸ Hck.out).symm
  obtain⟨sz,rfl⟩:∃ sz:Nat,n=(sz:Int):=⟨n.toNat,by omega⟩
  have hs1:1<=sz:=by omega
  have KI:sz<=16:=by omega
  by_cases hkb:m<1∨8<m
  ·have her:fO (sz:Int) m calls picks.length=10:=by unfold fO;rw [<-Hck.out,if_neg (by simpa using hc0),if_pos hkb]
   rw [her]
   have Hz:=Lib.hid (show(10:Int)≠0 by decide)
   subst hc0
   clear her
   have hkx:m<1∨(¬ m<1/\8<m):=by omega
   rcases hkx with hk1|⟨hk1,hk2⟩
   ·clear hkb
    go_enter Try.func12,Try.ntmps12
    go_wp2_with fail
    rw [<-Hwa.out]
    refine C.out.mono ?_
    rintro e w1 ⟨rfl,hb1⟩
    have hr1:=(hb1.block _ (aC Hra.out)).trans Hra.out
    have Hb1:=Lib.hid hb1;have Hr1:=Lib.hid hr1
    have g0:w1.cell? ⟨w.heap.size,0,none⟩=some (.slice none 0 0):=by rw [aA hr1];rfl
    have RF:w1.frozen? ⟨w.heap.size,0,none⟩=false:=aB hr1 0
    have g1:w1.cell? ⟨w.heap.size,1,none⟩=some (.slice none 0 0):=by rw [aA hr1];rfl
    have QN:w1.frozen? ⟨w.heap.size,1,none⟩=false:=aB hr1 1
    have g2:w1.cell? ⟨w.heap.size,2,none⟩=some (.int .i64 0):=by rw [aA hr1];rfl
    have PU:w1.frozen? ⟨w.heap.size,2,none⟩=false:=aB hr1 2
    have g3:w1.cell? ⟨w.heap.size,3,none⟩=some (.int .i64 0):=by rw [aA hr1];rfl
    have QA:w1.frozen? ⟨w.heap.size,3,none⟩=false:=aB hr1 3
    have g4:w1.cell? ⟨w.heap.size,4,none⟩=some (.int .i64 0):=by rw [aA hr1];rfl
    have QH:w1.frozen? ⟨w.heap.size,4,none⟩=false:=aB hr1 4
    have g5:w1.cell? ⟨w.heap.size,5,none⟩=some (.int .i64 0):=by rw [aA hr1];rfl
    have PQ:w1.frozen? ⟨w.heap.size,5,none⟩=false:=aB hr1 5
    have g6:w1.cell? ⟨w.heap.size,6,none⟩=some (.int .i64 0):=by rw [aA hr1];rfl
    have PW:w1.frozen? ⟨w.heap.size,6,none⟩=false:=aB hr1 6
    have g7:w1.cell? ⟨w.heap.size,7,none⟩=some (.int .i64 0):=by rw [aA hr1];rfl
    have QG:w1.frozen? ⟨w.heap.size,7,none⟩=false:=aB hr1 7
    have g8:w1.cell? ⟨w.heap.size,8,none⟩=some (.int .i64 0):=by rw [aA hr1];rfl
    have RA:w1.frozen? ⟨w.heap.size,8,none⟩=false:=aB hr1 8
    clear hr1 hb1
    go_wp2
    obtain⟨w7,hw7⟩:∃ w7,w7=(((((((((w1.setCell ⟨w.heap.size,0,none⟩ (.slice none 0 0)).setCell ⟨w.heap.size,1,none⟩ (.slice none 0 0)).setCell ⟨w.heap.size,2,none⟩ (.int .i64 0)).setCell ⟨w.heap.size,3,none⟩ (.int .i64 0)).setCell ⟨w.heap.size,4,none⟩ (.int .i64 0)).setCell ⟨w.heap.size,5,none⟩ (.int .i64 0)).setCell ⟨w.heap.size,6,none⟩ (.int .i64 0)).setCell ⟨w.heap.size,7,none⟩ (.int .i64 0)).setCell ⟨w.heap.size,8,none⟩ (.int .i64 0)):=⟨_,rfl⟩
    rw [<-hw7]
    have kM:w7.heap[w.heap.size]?=some (.cells #[.slice none 0 0,.slice none 0 0,.int .i64 0,.int .i64 0,.int .i64 0,.int .i64 0,.int .i64 0,.int .i64 0,.int .i64 0] 32 (0,0)):=by rw [hw7,(aH (aH (aH (aH (aH (aH (aH (aH (aH Hr1.out _ _) _ _) _ _) _ _) _ _) _ _) _ _) _ _) _ _)];rfl
    have lZ:Chg (λb=>b=w.heap.size) w1 w7:=by rw [hw7];exact((((((((((Chg.refl (λb=>b=w.heap.size) w1).setCell (by exact .inl rfl) _).setCell (by exact .inl rfl) _).setCell (by exact .inl rfl) _).setCell (by exact .inl rfl) _).setCell (by exact .inl rfl) _).setCell (by exact .inl rfl) _).setCell (by exact .inl rfl) _).setCell (by exact .inl rfl) _).setCell (by exact .inl rfl) _)
    clear hw7
    have hld:=oH w7 w.heap.size _ kM rfl
    refine bodyPost_ret (v:=.tuple #[.agg #[.slice none 0 0,.slice none 0 0,.int .i64 0,.int .i64 0,.int .i64 0,.int .i64 0,.int .i64 0,.int .i64 0,.int .i64 0],.int .i64 10]) (by simp [results,Try.results12 ,Sem.run_bind,Sem.run_pure,asAddr,hld]) rfl ?_
    have hall:Chg (λb=>w.heap.size<=b) w w7:=((Chg.of_below Hga.out).trans (Chg.of_below Hb1.out)).trans (lZ.mono (λb _ h=>by have h9:b=w.heap.size:=h;omega))
    exact⟨none,0,0,none,0,0,_,rfl,hall.below (λb h=>h) (Nat.le_refl _),.inl ⟨Hz.out,rfl,rfl,rfl,rfl,rfl,rfl,rfl⟩⟩
   ·clear hkb
    go_enter Try.func12,Try.ntmps12
    go_wp2_with fail
    rw [<-Hwa.out]
    refine C.out.mono ?_
    rintro e w1 ⟨rfl,hb1⟩
    have hr1:=(hb1.block _ (aC Hra.out)).trans Hra.out
    have Hb1:=Lib.hid hb1;have Hr1:=Lib.hid hr1
    have g0:w1.cell? ⟨w.heap.size,0,none⟩=some (.slice none 0 0):=by rw [aA hr1];rfl
    have RF:w1.frozen? ⟨w.heap.size,0,none⟩=false:=aB hr1 0
    have g1:w1.cell? ⟨w.heap.size,1,none⟩=some (.slice none 0 0):=by rw [aA hr1];rfl
    have QN:w1.frozen? ⟨w.heap.size,1,none⟩=false:=aB hr1 1
    have g2:w1.cell? ⟨w.heap.size,2,none⟩=some (.int .i64 0):=by rw [aA hr1];rfl
    have PU:w1.frozen? ⟨w.heap.size,2,none⟩=false:=aB hr1 2
    have g3:w1.cell? ⟨w.heap.size,3,none⟩=some (.int .i64 0):=by rw [aA hr1];rfl
    have QA:w1.frozen? ⟨w.heap.size,3,none⟩=false:=aB hr1 3
    have g4:w1.cell? ⟨w.heap.size,4,none⟩=some (.int .i64 0):=by rw [aA hr1];rfl
    have QH:w1.frozen? ⟨w.heap.size,4,none⟩=false:=aB hr1 4
    have g5:w1.cell? ⟨w.heap.size,5,none⟩=some (.int .i64 0):=by rw [aA hr1];rfl
    have PQ:w1.frozen? ⟨w.heap.size,5,none⟩=false:=aB hr1 5
    have g6:w1.cell? ⟨w.heap.size,6,none⟩=some (.int .i64 0):=by rw [aA hr1];rfl
    have PW:w1.frozen? ⟨w.heap.size,6,none⟩=false:=aB hr1 6
    have g7:w1.cell? ⟨w.heap.size,7,none⟩=some (.int .i64 0):=by rw [aA hr1];rfl
    have QG:w1.frozen? ⟨w.heap.size,7,none⟩=false:=aB hr1 7
    have g8:w1.cell? ⟨w.heap.size,8,none⟩=some (.int .i64 0):=by rw [aA hr1];rfl
    have RA:w1.frozen? ⟨w.heap.size,8,none⟩=false:=aB hr1 8
    clear hr1 hb1
    go_wp2
    obtain⟨w7,hw7⟩:∃ w7,w7=(((((((((w1.setCell ⟨w.heap.size,0,none⟩ (.slice none 0 0)).setCell ⟨w.heap.size,1,none⟩ (.slice none 0 0)).setCell ⟨w.heap.size,2,none⟩ (.int .i64 0)).setCell ⟨w.heap.size,3,none⟩ (.int .i64 0)).setCell ⟨w.heap.size,4,none⟩ (.int .i64 0)).setCell ⟨w.heap.size,5,none⟩ (.int .i64 0)).setCell ⟨w.heap.size,6,none⟩ (.int .i64 0)).setCell ⟨w.heap.size,7,none⟩ (.int .i64 0)).setCell ⟨w.heap.size,8,none⟩ (.int .i64 0)):=⟨_,rfl⟩
    rw [<-hw7]
    have kM:w7.heap[w.heap.size]?=some (.cells #[.slice none 0 0,.slice none 0 0,.int .i64 0,.int .i64 0,.int .i64 0,.int .i64 0,.int .i64 0,.int .i64 0,.int .i64 0] 32 (0,0)):=by rw [hw7,(aH (aH (aH (aH (aH (aH (aH (aH (aH Hr1.out _ _) _ _) _ _) _ _) _ _) _ _) _ _) _ _) _ _)];rfl
    have lZ:Chg (λb=>b=w.heap.size) w1 w7:=by rw [hw7];exact((((((((((Chg.refl (λb=>b=w.heap.size) w1).setCell (by exact .inl rfl) _).setCell (by exact .inl rfl) _).setCell (by exact .inl rfl) _).setCell (by exact .inl rfl) _).setCell (by exact .inl rfl) _).setCell (by exact .inl rfl) _).setCell (by exact .inl rfl) _).setCell (by exact .inl rfl) _).setCell (by exact .inl rfl) _)
    clear hw7
    have hld:=oH w7 w.heap.size _ kM rfl
    refine bodyPost_ret (v:=.tuple #[.agg #[.slice none 0 0,.slice none 0 0,.int .i64 0,.int .i64 0,.int .i64 0,.int .i64 0,.int .i64 0,.int .i64 0,.int .i64 0],.int .i64 10]) (by simp [results,Try.results12 ,Sem.run_bind,Sem.run_pure,asAddr,hld]) rfl ?_
    have hall:Chg (λb=>w.heap.size<=b) w w7:=((Chg.of_below Hga.out).trans (Chg.of_below Hb1.out)).trans (lZ.mono (λb _ h=>by have h9:b=w.heap.size:=h;omega))
    exact⟨none,0,0,none,0,0,_,rfl,hall.below (λb h=>h) (Nat.le_refl _),.inl ⟨Hz.out,rfl,rfl,rfl,rfl,rfl,rfl,rfl⟩⟩
  ·obtain⟨mm,rfl⟩:∃ mm:Nat,m=(mm:Int):=⟨m.toNat,by omega⟩
   have hm1:1<=mm:=by omega
   have zR:mm<=8:=by omega
   have her:fO (sz:Int) (mm:Int) calls picks.length=0:=by unfold fO;rw [<-Hck.out,if_neg (by simpa using hc0),if_neg hkb]
   rw [her]
   simp only [Int.toNat_natCast] at Hsf ⊢
   obtain⟨S,hS⟩:∃ S,S=fV sz mm:=⟨_,rfl⟩
   have hSl:S<=20000:=by rw [hS];exact LG KI zR
   have P:=Lib.hid (λ(u:World) (bo bw bP bU:Nat) (hu:Below wa.heap.size wa u) (h1:u.cell? ⟨bo,0,none⟩=some (.iface 59 (.pointer (some ⟨bP,0,none⟩)))) (h2:u.heap[bw]?=some (.cells (madeCells #[.int .u64 0] S) 40 (0,0))) (h3:u.heap[bP]?=some (.cells (ctL sz mm (aJ sz) (lM bU sz)) 80 (0,0))) (h4:u.heap[bU]?=some (.cells (jE (List.replicate sz 0)) 40 (0,0)))
     (hq:wa.heap.size<=bP/\wa.heap.size<=bo/\bo≠bP/\wa.heap.size<=bU/\bo≠bU/\bU≠bP)=>
    (DJ (X:=λb=>(X b∨b=w.heap.size)∨(b=bP∨b=bU)) (R:=rM sz mm bP bU) (HY sz mm bP bU hs1 KI zR) (AL sz mm bP bU) (by show 1<=1000;omega) u (List.replicate sz 0) sz calls (List.replicate S 0) picks (.slice (some ⟨bo,0,none⟩) 1 1) (.slice ca calls.length cc) (.slice (some ⟨bw,0,none⟩) (List.replicate S 0).length S) pa pc
     ⟨⟨ca,cc,rfl,Hc.out.sl.grown (Gr.trans Hga.out hu),λhl b off e hx=>by
      obtain⟨b0,yO,e0,hb0⟩:=Hc.out.sl.lt hl
      rcases hx with(hx|hx)|hx|hx
      ·exact Hc.out.nx hl b off e hx
      ·rw [e0] at e;cases e;omega
      ·rw [e0] at e;cases e;omega
      ·rw [e0] at e;cases e;omega⟩,Hc.out.ok,⟨bo,0,1,rfl,h1,λhx=>by rcases hx with(hx|hx)|hx|hx;have:=HX.out bo hx;omega;omega;omega;omega⟩,⟨_,S,rfl,DY h2 (by omega),λe=>by cases e⟩,by rw [List.length_replicate];omega,λx hx=>by rw [(List.mem_replicate.1 hx).2];omega,λb hb=>.inr hb,
      λv M hv hM=>⟨(hv.block _ (aC h3)).trans h3,(hv.block _ (aC h4)).trans h4,List.length_replicate ..,hM bP (.inl rfl),hM bU (.inr rfl),λp=>by rw [iX];omega⟩,trivial,λb hx=>by
       have:=hu.size
       rcases hx with(hx|hx)|hx|hx
       ·have:=HX.out b hx;omega
       ·omega
       ·rw [hx];exact aC h3
       ·rw [hx];exact aC h4⟩ (Hp.out.sl.grown (Gr.trans Hga.out hu)) (λhl b off e hx=>by
      obtain⟨b0,yO,e0,hb0⟩:=Hp.out.sl.lt hl
      rw [e0] at e;cases e
      have hx:b=bP∨b=bU:=hx
      omega) Hp.out.ok (λh l p k hl=>by rw [hS];exact EH (Hsf.out h (by omega) (by omega) l p k hl)) (λq _ hq=>by show q<sz;omega)).mono (λe w' h=>(⟨rF.retC h (X':=λb=>X b∨b=w.heap.size) hu (λb hb=>by have hb:b=bP∨b=bU:=hb;omega) (λb hb=>.inl hb),Gr.refl _⟩:qX (λb=>X b∨b=w.heap.size) wa w' (checkN sz calls picks.length) (iO (bH sz mm) (List.replicate sz 0) (List.replicate S 0) calls picks) e/\Below wa.heap.size wa wa)))
   have N:=Lib.hid (LY sz mm KI)
   have Z:=Lib.hid (λbP ov=>IB sz mm bP ov KI zR)
   rw [<-hS] at Z
   have hmk:=sZ S (S:Int) rfl (by omega)
   rw [<-hS]
   obtain⟨rr,hrr⟩:∃ rr,rr=iO (bH sz mm) (List.replicate sz 0) (List.replicate S 0) calls picks:=⟨_,rfl⟩
   rw [<-Hck.out,hc0,<-hrr] at P
   rw [<-hrr]
   simp only [List.length_replicate] at P
   have l1:¬ (mm:Int)<1:=by omega
   have l2:¬ (8:Int)<(mm:Int):=by omega
   subst hc0
   clear hrr her hS hkb zR hSl
   go_enter Try.func12,Try.ntmps12
   go_wp2_with fail
   rw [<-Hwa.out]
   refine C.out.mono ?_
   rintro e w1 ⟨rfl,hb1⟩
   have Hb1:=Lib.hid hb1
   clear hb1
   go_wp2_with fail
   refine(N.out _).mono ?_
   rintro e w2 ⟨rfl,hb2,hs2,hP2,hM2⟩
   have WM:=Hb1.out.size
   obtain⟨bU,hbU⟩:∃ bU,bU=w1.heap.size:=⟨_,rfl⟩
   obtain⟨bP,hbP⟩:∃ bP,bP=w1.heap.size+1:=⟨_,rfl⟩
   rw [<-hbP,<-hbU] at hP2
   rw [<-hbU] at hM2
   rw [<-hbP]
   have Hb2:=Lib.hid hb2;have Hs2:=Lib.hid hs2;have HP2:=Lib.hid hP2;have HbP:=Lib.hid hbP;have HbU:=Lib.hid hbU;have HM2:=Lib.hid hM2
   clear hb2 hs2 hP2 hbP hbU hM2
   go_wp2_with fail
   refine(Z.out bP (lM bU sz) _ (((Gr.new _ _).block bP (aC HP2.out)).trans HP2.out)).mono ?_
   rintro e w3 ⟨rfl,hb3⟩
   have Hb3:=Lib.hid hb3
   clear hb3
   go_wp2_with fail
   have hb3:=Hb3.out
   have hs3:=hb3.size
   simp only [World.size_alloc] at hs3
   have hs2:=Hs2.out;have hbP:=HbP.out;have hbU:=HbU.out
   obtain⟨w5,vR⟩:∃ w5,w5=w3.alloc (.cells (madeCells #[.int .u64 0] S) 40):=⟨_,rfl⟩
   have g35:Below w3.heap.size w3 w5:=by rw [vR];exact Gr.new _ _
   have g25:Below w2.heap.size w2 w5:=Gr.trans (Gr.new _ _) (Gr.trans hb3 g35)
   have h1:w5.cell? ⟨w2.heap.size,0,none⟩=some (.iface 59 (.pointer (some ⟨bP,0,none⟩))):=((Gr.trans hb3 g35).cell (p:=⟨w2.heap.size,0,none⟩) (by simp)).trans (by rw [dZ];rfl)
   have h2:w5.heap[w3.heap.size]?=some (.cells (madeCells #[.int .u64 0] S) 40 (0,0)):=by rw [vR];exact heap_alloc_new _ _
   have P5:=P.out w5 w2.heap.size w3.heap.size bP bU (Gr.trans Hb1.out (Gr.trans Hb2.out g25)) h1 h2 ((g25.block _ (aC HP2.out)).trans HP2.out) ((g25.block _ (aC HM2.out)).trans HM2.out) ⟨by omega,by omega,by omega,by omega,by omega,by omega⟩
   rw [vR] at P5
   refine P5.mono ?_
   rintro e w4 ⟨⟨ea,en,ec,va,vn,vc,rp,rfl,hrest⟩,hu⟩
   have hr4:=(hrest.1.block w.heap.size (aC Hra.out)).trans Hra.out
   obtain⟨cs,w7,hcs,hsz,hst,PP,lZ⟩:=FD w4 w.heap.size (.slice ea en ec) (.slice va vn vc) rp hr4 rfl rfl
   rw [hcs]
   have Hcs:=Lib.hid hcs;have Hbk7:=Lib.hid PP;have Hch7:=Lib.hid lZ;have Hrest:=Lib.hid hrest;have Hu:=Lib.hid hu
   clear hr4 hrest hu hcs PP lZ hb3 hs3 hs2 hbP hbU vR g35 g25 h1 h2 P5
   go_wp2
   have hld:=oH w7 w.heap.size cs Hbk7.out hsz
   refine bodyPost_ret (v:=.tuple #[.agg cs,.int .i64 0]) (by simp [results,Try.results12 ,Sem.run_bind,Sem.run_pure,asAddr,hld]) rfl ?_
   refine⟨ea,en,ec,va,vn,vc,rp,by rw [Hcs.out],lD.chg Hrest.out Hch7.out (λb hb=>?_) (Gr.trans Hga.out Hu.out) (λb hb=>.inl hb)⟩
   have hb':b=w.heap.size:=hb
   exact⟨.inr hb',by omega,by have:=Hu.out.size;omega⟩
 ·have her:fO n m calls picks.length=ck:=by unfold fO;rw [<-Hck.out,if_pos (by simpa using hc0)]
  rw [her]
  have Her0:=Lib.hid hc0
  clear her
  go_enter Try.func12,Try.ntmps12
  go_wp2_with fail
  rw [<-Hwa.out]
  refine C.out.mono ?_
  rintro e w1 ⟨rfl,hb1⟩
  have hr1:=(hb1.block _ (aC Hra.out)).trans Hra.out
  have Hb1:=Lib.hid hb1;have Hr1:=Lib.hid hr1
  have g0:w1.cell? ⟨w.heap.size,0,none⟩=some (.slice none 0 0):=by rw [aA hr1];rfl
  have RF:w1.frozen? ⟨w.heap.size,0,none⟩=false:=aB hr1 0
  have g1:w1.cell? ⟨w.heap.size,1,none⟩=some (.slice none 0 0):=by rw [aA hr1];rfl
  have QN:w1.frozen? ⟨w.heap.size,1,none⟩=false:=aB hr1 1
  have g2:w1.cell? ⟨w.heap.size,2,none⟩=some (.int .i64 0):=by rw [aA hr1];rfl
  have PU:w1.frozen? ⟨w.heap.size,2,none⟩=false:=aB hr1 2
  have g3:w1.cell? ⟨w.heap.size,3,none⟩=some (.int .i64 0):=by rw [aA hr1];rfl
  have QA:w1.frozen? ⟨w.heap.size,3,none⟩=false:=aB hr1 3
  have g4:w1.cell? ⟨w.heap.size,4,none⟩=some (.int .i64 0):=by rw [aA hr1];rfl
  have QH:w1.frozen? ⟨w.heap.size,4,none⟩=false:=aB hr1 4
  have g5:w1.cell? ⟨w.heap.size,5,none⟩=some (.int .i64 0):=by rw [aA hr1];rfl
  have PQ:w1.frozen? ⟨w.heap.size,5,none⟩=false:=aB hr1 5
  have g6:w1.cell? ⟨w.heap.size,6,none⟩=some (.int .i64 0):=by rw [aA hr1];rfl
  have PW:w1.frozen? ⟨w.heap.size,6,none⟩=false:=aB hr1 6
  have g7:w1.cell? ⟨w.heap.size,7,none⟩=some (.int .i64 0):=by rw [aA hr1];rfl
  have QG:w1.frozen? ⟨w.heap.size,7,none⟩=false:=aB hr1 7
  have g8:w1.cell? ⟨w.heap.size,8,none⟩=some (.int .i64 0):=by rw [aA hr1];rfl
  have RA:w1.frozen? ⟨w.heap.size,8,none⟩=false:=aB hr1 8
  clear hr1 hb1
  go_wp2
  obtain⟨w7,hw7⟩:∃ w7,w7=(((((((((w1.setCell ⟨w.heap.size,0,none⟩ (.slice none 0 0)).setCell ⟨w.heap.size,1,none⟩ (.slice none 0 0)).setCell ⟨w.heap.size,2,none⟩ (.int .i64 0)).setCell ⟨w.heap.size,3,none⟩ (.int .i64 0)).setCell ⟨w.heap.size,4,none⟩ (.int .i64 0)).setCell ⟨w.heap.size,5,none⟩ (.int .i64 0)).setCell ⟨w.heap.size,6,none⟩ (.int .i64 0)).setCell ⟨w.heap.size,7,none⟩ (.int .i64 0)).setCell ⟨w.heap.size,8,none⟩ (.int .i64 0)):=⟨_,rfl⟩
  rw [<-hw7]
  have kM:w7.heap[w.heap.size]?=some (.cells #[.slice none 0 0,.slice none 0 0,.int .i64 0,.int .i64 0,.int .i64 0,.int .i64 0,.int .i64 0,.int .i64 0,.int .i64 0] 32 (0,0)):=by rw [hw7,(aH (aH (aH (aH (aH (aH (aH (aH (aH Hr1.out _ _) _ _) _ _) _ _) _ _) _ _) _ _) _ _) _ _)];rfl
  have lZ:Chg (λb=>b=w.heap.size) w1 w7:=by rw [hw7];exact((((((((((Chg.refl (λb=>b=w.heap.size) w1).setCell (by exact .inl rfl) _).setCell (by exact .inl rfl) _).setCell (by exact .inl rfl) _).setCell (by exact .inl rfl) _).setCell (by exact .inl rfl) _).setCell (by exact .inl rfl) _).setCell (by exact .inl rfl) _).setCell (by exact .inl rfl) _).setCell (by exact .inl rfl) _)
  clear hw7
  have hld:=oH w7 w.heap.size _ kM rfl
  refine bodyPost_ret (v:=.tuple #[.agg #[.slice none 0 0,.slice none 0 0,.int .i64 0,.int .i64 0,.int .i64 0,.int .i64 0,.int .i64 0,.int .i64 0,.int .i64 0],.int .i64 ck]) (by simp [results,Try.results12 ,Sem.run_bind,Sem.run_pure,asAddr,hld]) rfl ?_
  have hall:Chg (λb=>w.heap.size<=b) w w7:=((Chg.of_below Hga.out).trans (Chg.of_below Hb1.out)).trans (lZ.mono (λb _ h=>by have h9:b=w.heap.size:=h;omega))
  exact⟨none,0,0,none,0,0,_,rfl,hall.below (λb h=>h) (Nat.le_refl _),.inl ⟨Her0.out,rfl,rfl,rfl,rfl,rfl,rfl,rfl⟩⟩
end Go.Proofs.Ytifhldnmcdbpfaa
