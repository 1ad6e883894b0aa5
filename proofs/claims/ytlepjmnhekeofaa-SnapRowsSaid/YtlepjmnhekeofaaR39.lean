/- Layer 15: snap.Play. -/
import Derived.Test.YtlepjmnhekeofaaR38
import Derived.Test.YtlepjmnhekeofaaR23
set_option maxRecDepth 100000
set_option linter.unusedVariables false
set_option linter.unusedSimpArgs false
set_option linter.unnecessarySimpa false
namespace Go.Proofs.Ytlepjmnhekeofaa
open Go.RowKit
def SnNewTo (n k:Nat) (w w':World) (e:Ending):Prop:=
 e=.returned (.pointer (some ⟨w.heap.size,0,none⟩))/\Below w.heap.size w w'/\w'.heap.size=w.heap.size+1/\w'.heap[w.heap.size]?=some (.cells (snapL n k (List.replicate 16 0)).toArray 100 (0,0))
theorem snap_new (n k:Nat) (w:World):Calls Try.prog 37 #[.int .i64 0,.int .i64 (n:Int),.int .i64 (k:Int)] w λe w'=>SnNewTo n k w w' e:=by
 obtain⟨wb,hwb⟩:∃ wb,wb=w.alloc (.cells (snapL n k (List.replicate 16 0)).toArray 100):=⟨_,rfl⟩
 have F:=Lib.hid (show SnNewTo n k w wb (.returned (.pointer (some ⟨w.heap.size,0,none⟩))) from by
  rw [hwb]
  exact⟨rfl,Gr.new _ _,by simp,heap_alloc_new _ _⟩)
 have Hwb:=Lib.hid (show wb=w.alloc (.cells #[.int .i64 0,.int .i64 (n:Int),.int .i64 (k:Int),.int .i64 0,.int .i64 0,.int .i64 0,.int .i64 0,.int .i64 0,.int .i64 0,.int .i64 0,.int .i64 0,.int .i64 0,.int .i64 0,.int .i64 0,.int .i64 0,.int .i64 0,.int .i64 0,.int .i64 0,.int .i64 0] 100) from hwb)
 clear hwb
 go_enter Try.func37,Try.ntmps37
 go_wp2
 rw [<-Hwb.out]
 go_ret
 exact F.out
def snSize (n k:Nat):Nat:=n+n*k*(n+1)
theorem snSize_le {n k:Nat} (hn:n<=16) (hk:k<=64):snSize n k<=20000:=by
 have h1:n*k<=16*64:=Nat.mul_le_mul hn hk
 have h2:n*k*(n+1)<=(16*64)*17:=Nat.mul_le_mul h1 (by omega)
 unfold snSize;omega
theorem snap_size (n k:Nat) (hn:n<=16) (hk:k<=64) (w:World):Calls Try.prog 38 #[.int .i64 (n:Int),.int .i64 (k:Int)] w λe w'=>e=.returned (.int .i64 ((snSize n k:Nat):Int))/\Below w.heap.size w w':=by
 obtain⟨m,hm⟩:∃ m:Nat,m=n*k:=⟨_,rfl⟩
 have hml:m<=1024:=by
  have:n*k<=16*64:=Nat.mul_le_mul hn hk
  omega
 obtain⟨q,hq⟩:∃ q:Nat,q=m*(n+1):=⟨_,rfl⟩
 have hql:q<=100000:=by
  have:m*(n+1)<=1024*17:=Nat.mul_le_mul hml (by omega)
  omega
 have em:(n:Int)*(k:Int)=(m:Int):=by rw [hm];simp
 have eq:(m:Int)*((n:Int)+1)=(q:Int):=by rw [hq];simp
 have w1:IntKind.i64.wrap ((n:Int)*(k:Int))=(m:Int):=by rw [em,IntKind.wrap_i64];omega
 have w2:IntKind.i64.wrap ((n:Int)+1)=(n:Int)+1:=by rw [IntKind.wrap_i64];omega
 have w3:IntKind.i64.wrap ((m:Int)*((n:Int)+1))=(q:Int):=by rw [eq,IntKind.wrap_i64];omega
 have w4:IntKind.i64.wrap ((n:Int)+(q:Int))=(n:Int)+(q:Int):=by rw [IntKind.wrap_i64];omega
 have E:=Lib.hid (show((snSize n k:Nat):Int)=(n:Int)+(q:Int) by unfold snSize;rw [<-hm,<-hq];omega)
 rw [E.out]
 clear hm hml hq hql em eq hn hk
 go_enter Try.func38,Try.ntmps38
 go_wp2_with fail
 (try go_quiet (fail))
 go_wp2
 go_ret
 first|exact⟨rfl,Gr.refl _⟩|exact⟨rfl,below_drewN (Gr.refl w) nq⟩
def snO0:List Nat:=List.replicate 16 0
def snCheck (n k:Int) (calls:List CallD) (np:Nat):Int:=if checkN n calls np≠0 then checkN n calls np else if k<1∨64<k then 10 else 0
theorem snSafe_at {n k bP:Nat} {calls:List CallD} {st:PlayD (snapS n k)} {p:Int} (h:SafeAt (snapR n k 0) calls st p):SafeAt (snapR n k bP) calls st p:=h
set_option maxHeartbeats 4000000 in
theorem snapPlay_any (X:Nat->Prop) (w:World) (n k:Int) (calls:List CallD) (picks:List Int) (ca pa:Option Addr) (cc pc:Nat) (hX:∀ b,X b->b<w.heap.size) (hc:CallsAt X w ca calls) (hp:PicksAt w pa picks) (hsf:checkN n calls picks.length=0->1<=k->k<=64->∀ l p m,picks=l++p::m->SafeAt (snapR n.toNat k.toNat 0) calls (picksD (snapS n.toNat k.toNat) calls (play0 (snapS n.toNat k.toNat) snO0 (List.replicate (snSize n.toNat k.toNat) 0) calls) l) p) :
  Calls Try.prog 23 #[.int .i64 n,.int .i64 k,.slice ca calls.length cc,.slice pa picks.length pc] w λe w'=>PlayRet X w w' (snCheck n k calls picks.length) (playD (snapS n.toNat k.toNat) snO0 (List.replicate (snSize n.toNat k.toNat) 0) calls picks) e:=by
 obtain⟨wa,hwa⟩:∃ wa,wa=w.alloc (.cells #[.slice none 0 0,.slice none 0 0,.int .i64 0,.int .i64 0,.int .i64 0,.int .i64 0,.int .i64 0,.int .i64 0,.int .i64 0] 32):=⟨_,rfl⟩
 have hga:Below w.heap.size w wa:=by rw [hwa];exact Gr.new _ _
 have hra:wa.heap[w.heap.size]?=some (.cells #[.slice none 0 0,.slice none 0 0,.int .i64 0,.int .i64 0,.int .i64 0,.int .i64 0,.int .i64 0,.int .i64 0,.int .i64 0] 32 (0,0)):=by rw [hwa];exact heap_alloc_new _ _
 have hsa:w.heap.size<wa.heap.size:=by rw [hwa];simp
 have C:=Lib.hid (check_any n calls picks.length ca pa cc pc wa (hc.sl.grown hga) hp.sl.1 (λx hx=>(hc.ok x hx).thread))
 have Hc:=Lib.hid hc;have Hp:=Lib.hid hp;have HX:=Lib.hid hX
 have Hwa:=Lib.hid hwa;have Hga:=Lib.hid hga;have Hra:=Lib.hid hra
 have hpl:=hp.sl.1
 unfold maxLen at hpl
 have Hsf:=Lib.hid hsf
 clear hc hp hX hwa hga hra hsf
 obtain⟨ck,hck⟩:∃ ck,ck=checkN n calls picks.length:=⟨_,rfl⟩
 rw [<-hck] at C
 have Hck:=Lib.hid hck
 clear hck
 by_cases hc0:ck=0
 ·obtain⟨hn1,hn16⟩:=n_ok (hc0 ▸ Hck.out).symm
  obtain⟨sz,rfl⟩:∃ sz:Nat,n=(sz:Int):=⟨n.toNat,by omega⟩
  have hs1:1<=sz:=by omega
  have hs16:sz<=16:=by omega
  by_cases hkb:k<1∨64<k
  ·have her:snCheck (sz:Int) k calls picks.length=10:=by unfold snCheck;rw [<-Hck.out,if_neg (by simpa using hc0),if_pos hkb]
   rw [her]
   have Hz:=Lib.hid (show(10:Int)≠0 by decide)
   subst hc0
   clear her
   have hkx:k<1∨(¬ k<1/\64<k):=by omega
   rcases hkx with hk1|⟨hk1,hk2⟩
   ·clear hkb
    go_enter Try.func23,Try.ntmps23
    go_wp2_with fail
    rw [<-Hwa.out]
    refine C.out.mono ?_
    rintro e w1 ⟨rfl,hb1⟩
    have hr1:=(hb1.block _ (blk_lt Hra.out)).trans Hra.out
    have Hb1:=Lib.hid hb1;have Hr1:=Lib.hid hr1
    have g0:w1.cell? ⟨w.heap.size,0,none⟩=some (.slice none 0 0):=by rw [cell_blk hr1];rfl
    have gf0:w1.frozen? ⟨w.heap.size,0,none⟩=false:=frozen_blk hr1 0
    have g1:w1.cell? ⟨w.heap.size,1,none⟩=some (.slice none 0 0):=by rw [cell_blk hr1];rfl
    have gf1:w1.frozen? ⟨w.heap.size,1,none⟩=false:=frozen_blk hr1 1
    have g2:w1.cell? ⟨w.heap.size,2,none⟩=some (.int .i64 0):=by rw [cell_blk hr1];rfl
    have gf2:w1.frozen? ⟨w.heap.size,2,none⟩=false:=frozen_blk hr1 2
    have g3:w1.cell? ⟨w.heap.size,3,none⟩=some (.int .i64 0):=by rw [cell_blk hr1];rfl
    have gf3:w1.frozen? ⟨w.heap.size,3,none⟩=false:=frozen_blk hr1 3
    have g4:w1.cell? ⟨w.heap.size,4,none⟩=some (.int .i64 0):=by rw [cell_blk hr1];rfl
    have gf4:w1.frozen? ⟨w.heap.size,4,none⟩=false:=frozen_blk hr1 4
    have g5:w1.cell? ⟨w.heap.size,5,none⟩=some (.int .i64 0):=by rw [cell_blk hr1];rfl
    have gf5:w1.frozen? ⟨w.heap.size,5,none⟩=false:=frozen_blk hr1 5
    have g6:w1.cell? ⟨w.heap.size,6,none⟩=some (.int .i64 0):=by rw [cell_blk hr1];rfl
    have gf6:w1.frozen? ⟨w.heap.size,6,none⟩=false:=frozen_blk hr1 6
    have g7:w1.cell? ⟨w.heap.size,7,none⟩=some (.int .i64 0):=by rw [cell_blk hr1];rfl
    have gf7:w1.frozen? ⟨w.heap.size,7,none⟩=false:=frozen_blk hr1 7
    have g8:w1.cell? ⟨w.heap.size,8,none⟩=some (.int .i64 0):=by rw [cell_blk hr1];rfl
    have gf8:w1.frozen? ⟨w.heap.size,8,none⟩=false:=frozen_blk hr1 8
    clear hr1 hb1
    go_wp2
    obtain⟨w7,hw7⟩:∃ w7,w7=(((((((((w1.setCell ⟨w.heap.size,0,none⟩ (.slice none 0 0)).setCell ⟨w.heap.size,1,none⟩ (.slice none 0 0)).setCell ⟨w.heap.size,2,none⟩ (.int .i64 0)).setCell ⟨w.heap.size,3,none⟩ (.int .i64 0)).setCell ⟨w.heap.size,4,none⟩ (.int .i64 0)).setCell ⟨w.heap.size,5,none⟩ (.int .i64 0)).setCell ⟨w.heap.size,6,none⟩ (.int .i64 0)).setCell ⟨w.heap.size,7,none⟩ (.int .i64 0)).setCell ⟨w.heap.size,8,none⟩ (.int .i64 0)):=⟨_,rfl⟩
    rw [<-hw7]
    have hr7:w7.heap[w.heap.size]?=some (.cells #[.slice none 0 0,.slice none 0 0,.int .i64 0,.int .i64 0,.int .i64 0,.int .i64 0,.int .i64 0,.int .i64 0,.int .i64 0] 32 (0,0)):=by rw [hw7,(blk_set (blk_set (blk_set (blk_set (blk_set (blk_set (blk_set (blk_set (blk_set Hr1.out _ _) _ _) _ _) _ _) _ _) _ _) _ _) _ _) _ _)];rfl
    have hch7:Chg (λb=>b=w.heap.size) w1 w7:=by rw [hw7];exact((((((((((Chg.refl (λb=>b=w.heap.size) w1).setCell (by exact .inl rfl) _).setCell (by exact .inl rfl) _).setCell (by exact .inl rfl) _).setCell (by exact .inl rfl) _).setCell (by exact .inl rfl) _).setCell (by exact .inl rfl) _).setCell (by exact .inl rfl) _).setCell (by exact .inl rfl) _).setCell (by exact .inl rfl) _)
    clear hw7
    have hld:=rep_load w7 w.heap.size _ hr7 rfl
    refine bodyPost_ret (v:=.tuple #[.agg #[.slice none 0 0,.slice none 0 0,.int .i64 0,.int .i64 0,.int .i64 0,.int .i64 0,.int .i64 0,.int .i64 0,.int .i64 0],.int .i64 10]) (by simp [results,Try.results23 ,Sem.run_bind,Sem.run_pure,asAddr,hld]) rfl ?_
    have hall:Chg (λb=>w.heap.size<=b) w w7:=((Chg.of_below Hga.out).trans (Chg.of_below Hb1.out)).trans (hch7.mono (λb _ h=>by have h9:b=w.heap.size:=h;omega))
    exact⟨none,0,0,none,0,0,_,rfl,hall.below (λb h=>h) (Nat.le_refl _),.inl ⟨Hz.out,rfl,rfl,rfl,rfl,rfl,rfl,rfl⟩⟩
   ·clear hkb
    go_enter Try.func23,Try.ntmps23
    go_wp2_with fail
    rw [<-Hwa.out]
    refine C.out.mono ?_
    rintro e w1 ⟨rfl,hb1⟩
    have hr1:=(hb1.block _ (blk_lt Hra.out)).trans Hra.out
    have Hb1:=Lib.hid hb1;have Hr1:=Lib.hid hr1
    have g0:w1.cell? ⟨w.heap.size,0,none⟩=some (.slice none 0 0):=by rw [cell_blk hr1];rfl
    have gf0:w1.frozen? ⟨w.heap.size,0,none⟩=false:=frozen_blk hr1 0
    have g1:w1.cell? ⟨w.heap.size,1,none⟩=some (.slice none 0 0):=by rw [cell_blk hr1];rfl
    have gf1:w1.frozen? ⟨w.heap.size,1,none⟩=false:=frozen_blk hr1 1
    have g2:w1.cell? ⟨w.heap.size,2,none⟩=some (.int .i64 0):=by rw [cell_blk hr1];rfl
    have gf2:w1.frozen? ⟨w.heap.size,2,none⟩=false:=frozen_blk hr1 2
    have g3:w1.cell? ⟨w.heap.size,3,none⟩=some (.int .i64 0):=by rw [cell_blk hr1];rfl
    have gf3:w1.frozen? ⟨w.heap.size,3,none⟩=false:=frozen_blk hr1 3
    have g4:w1.cell? ⟨w.heap.size,4,none⟩=some (.int .i64 0):=by rw [cell_blk hr1];rfl
    have gf4:w1.frozen? ⟨w.heap.size,4,none⟩=false:=frozen_blk hr1 4
    have g5:w1.cell? ⟨w.heap.size,5,none⟩=some (.int .i64 0):=by rw [cell_blk hr1];rfl
    have gf5:w1.frozen? ⟨w.heap.size,5,none⟩=false:=frozen_blk hr1 5
    have g6:w1.cell? ⟨w.heap.size,6,none⟩=some (.int .i64 0):=by rw [cell_blk hr1];rfl
    have gf6:w1.frozen? ⟨w.heap.size,6,none⟩=false:=frozen_blk hr1 6
    have g7:w1.cell? ⟨w.heap.size,7,none⟩=some (.int .i64 0):=by rw [cell_blk hr1];rfl
    have gf7:w1.frozen? ⟨w.heap.size,7,none⟩=false:=frozen_blk hr1 7
    have g8:w1.cell? ⟨w.heap.size,8,none⟩=some (.int .i64 0):=by rw [cell_blk hr1];rfl
    have gf8:w1.frozen? ⟨w.heap.size,8,none⟩=false:=frozen_blk hr1 8
    clear hr1 hb1
    go_wp2
    obtain⟨w7,hw7⟩:∃ w7,w7=(((((((((w1.setCell ⟨w.heap.size,0,none⟩ (.slice none 0 0)).setCell ⟨w.heap.size,1,none⟩ (.slice none 0 0)).setCell ⟨w.heap.size,2,none⟩ (.int .i64 0)).setCell ⟨w.heap.size,3,none⟩ (.int .i64 0)).setCell ⟨w.heap.size,4,none⟩ (.int .i64 0)).setCell ⟨w.heap.size,5,none⟩ (.int .i64 0)).setCell ⟨w.heap.size,6,none⟩ (.int .i64 0)).setCell ⟨w.heap.size,7,none⟩ (.int .i64 0)).setCell ⟨w.heap.size,8,none⟩ (.int .i64 0)):=⟨_,rfl⟩
    rw [<-hw7]
    have hr7:w7.heap[w.heap.size]?=some (.cells #[.slice none 0 0,.slice none 0 0,.int .i64 0,.int .i64 0,.int .i64 0,.int .i64 0,.int .i64 0,.int .i64 0,.int .i64 0] 32 (0,0)):=by rw [hw7,(blk_set (blk_set (blk_set (blk_set (blk_set (blk_set (blk_set (blk_set (blk_set Hr1.out _ _) _ _) _ _) _ _) _ _) _ _) _ _) _ _) _ _)];rfl
    have hch7:Chg (λb=>b=w.heap.size) w1 w7:=by rw [hw7];exact((((((((((Chg.refl (λb=>b=w.heap.size) w1).setCell (by exact .inl rfl) _).setCell (by exact .inl rfl) _).setCell (by exact .inl rfl) _).setCell (by exact .inl rfl) _).setCell (by exact .inl rfl) _).setCell (by exact .inl rfl) _).setCell (by exact .inl rfl) _).setCell (by exact .inl rfl) _).setCell (by exact .inl rfl) _)
    clear hw7
    have hld:=rep_load w7 w.heap.size _ hr7 rfl
    refine bodyPost_ret (v:=.tuple #[.agg #[.slice none 0 0,.slice none 0 0,.int .i64 0,.int .i64 0,.int .i64 0,.int .i64 0,.int .i64 0,.int .i64 0,.int .i64 0],.int .i64 10]) (by simp [results,Try.results23 ,Sem.run_bind,Sem.run_pure,asAddr,hld]) rfl ?_
    have hall:Chg (λb=>w.heap.size<=b) w w7:=((Chg.of_below Hga.out).trans (Chg.of_below Hb1.out)).trans (hch7.mono (λb _ h=>by have h9:b=w.heap.size:=h;omega))
    exact⟨none,0,0,none,0,0,_,rfl,hall.below (λb h=>h) (Nat.le_refl _),.inl ⟨Hz.out,rfl,rfl,rfl,rfl,rfl,rfl,rfl⟩⟩
  ·obtain⟨kk,rfl⟩:∃ kk:Nat,k=(kk:Int):=⟨k.toNat,by omega⟩
   have hk1:1<=kk:=by omega
   have hk8:kk<=64:=by omega
   have her:snCheck (sz:Int) (kk:Int) calls picks.length=0:=by unfold snCheck;rw [<-Hck.out,if_neg (by simpa using hc0),if_neg hkb]
   rw [her]
   simp only [Int.toNat_natCast] at Hsf ⊢
   obtain⟨S,hS⟩:∃ S,S=snSize sz kk:=⟨_,rfl⟩
   have hSl:S<=20000:=by rw [hS];exact snSize_le hs16 hk8
   have P:=Lib.hid (λ(u:World) (bo bw bP:Nat) (hu:Below wa.heap.size wa u) (h1:u.cell? ⟨bo,0,none⟩=some (.iface 69 (.pointer (some ⟨bP,0,none⟩)))) (h2:u.heap[bw]?=some (.cells (madeCells #[.int .u64 0] S) 40 (0,0))) (h3:u.heap[bP]?=some (.cells (snapL sz kk (List.replicate 16 0)).toArray 100 (0,0)))
     (hq:wa.heap.size<=bP/\wa.heap.size<=bo/\bo≠bP)=>
    (playB_any (X:=λb=>(X b∨b=w.heap.size)∨b=bP) (R:=snapR sz kk bP) (snap_ok sz kk bP hs16 hk8) (snap_nolate sz kk bP) (by show 1<=1000;omega) u snO0 sz calls (List.replicate S 0) picks (.slice (some ⟨bo,0,none⟩) 1 1) (.slice ca calls.length cc) (.slice (some ⟨bw,0,none⟩) (List.replicate S 0).length S) pa pc
     ⟨⟨ca,cc,rfl,Hc.out.sl.grown (Gr.trans Hga.out hu),λhl b off e hx=>by
      obtain⟨b0,off0,e0,hb0⟩:=Hc.out.sl.lt hl
      rcases hx with(hx|hx)|hx
      ·exact Hc.out.nx hl b off e hx
      ·rw [e0] at e;cases e;omega
      ·rw [e0] at e;cases e;omega⟩,Hc.out.ok,⟨bo,0,1,rfl,h1,λhx=>by rcases hx with(hx|hx)|hx;have:=HX.out bo hx;omega;omega;omega⟩,⟨_,S,rfl,zeros_sl4 h2 (by omega),λe=>by cases e⟩,by rw [List.length_replicate];omega,λx hx=>by rw [(List.mem_replicate.1 hx).2];omega,λb hb=>.inr hb,
      λv M hv hM=>⟨(hv.block _ (blk_lt h3)).trans h3,by simp [snO0],hM bP rfl⟩,trivial,λb hx=>by
       have:=hu.size
       rcases hx with(hx|hx)|hx
       ·have:=HX.out b hx;omega
       ·omega
       ·rw [hx];exact blk_lt h3⟩ (Hp.out.sl.grown (Gr.trans Hga.out hu)) (λhl b off e hx=>by
      obtain⟨b0,off0,e0,hb0⟩:=Hp.out.sl.lt hl
      rw [e0] at e;cases e
      have hx:b=bP:=hx
      omega) Hp.out.ok (λh l p m hl=>by rw [hS];exact snSafe_at (Hsf.out h (by omega) (by omega) l p m hl))).mono (λe w' h=>(⟨PlayToB.ret h (X':=λb=>X b∨b=w.heap.size) hu (λb hb=>by have hb:b=bP:=hb;omega) (λb hb=>.inl hb),Gr.refl _⟩:PlayRet (λb=>X b∨b=w.heap.size) wa w' (checkN sz calls picks.length) (playD (snapS sz kk) snO0 (List.replicate S 0) calls picks) e/\Below wa.heap.size wa wa)))
   have N:=Lib.hid (snap_new sz kk)
   have Z:=Lib.hid (snap_size sz kk hs16 hk8)
   rw [<-hS] at Z
   have hmk:=make_size4 S (S:Int) rfl (by omega)
   rw [<-hS]
   obtain⟨rr,hrr⟩:∃ rr,rr=playD (snapS sz kk) snO0 (List.replicate S 0) calls picks:=⟨_,rfl⟩
   rw [<-Hck.out,hc0,<-hrr] at P
   rw [<-hrr]
   simp only [List.length_replicate] at P
   have l1:¬ (kk:Int)<1:=by omega
   have l2:¬ (64:Int)<(kk:Int):=by omega
   subst hc0
   clear hrr her hS hkb hk8 hSl
   go_enter Try.func23,Try.ntmps23
   go_wp2_with fail
   rw [<-Hwa.out]
   refine C.out.mono ?_
   rintro e w1 ⟨rfl,hb1⟩
   have Hb1:=Lib.hid hb1
   clear hb1
   go_wp2_with fail
   refine(N.out _).mono ?_
   rintro e w2 ⟨rfl,hb2,hs2,hP2⟩
   have hwa1:=Hb1.out.size
   obtain⟨bP,hbP⟩:∃ bP,bP=w1.heap.size:=⟨_,rfl⟩
   rw [<-hbP] at hP2
   rw [<-hbP]
   have Hb2:=Lib.hid hb2;have Hs2:=Lib.hid hs2;have HP2:=Lib.hid hP2;have HbP:=Lib.hid hbP
   clear hb2 hs2 hP2 hbP
   go_wp2_with fail
   refine(Z.out _).mono ?_
   rintro e w3 ⟨rfl,hb3⟩
   have Hb3:=Lib.hid hb3
   clear hb3
   go_wp2_with fail
   have hb3:=Hb3.out
   have hs3:=hb3.size
   simp only [World.size_alloc] at hs3
   have hs2:=Hs2.out;have hbP:=HbP.out
   obtain⟨w5,hw5⟩:∃ w5,w5=w3.alloc (.cells (madeCells #[.int .u64 0] S) 40):=⟨_,rfl⟩
   have g35:Below w3.heap.size w3 w5:=by rw [hw5];exact Gr.new _ _
   have g25:Below w2.heap.size w2 w5:=Gr.trans (Gr.new _ _) (Gr.trans hb3 g35)
   have h1:w5.cell? ⟨w2.heap.size,0,none⟩=some (.iface 69 (.pointer (some ⟨bP,0,none⟩))):=((Gr.trans hb3 g35).cell (p:=⟨w2.heap.size,0,none⟩) (by simp)).trans (by rw [cell_new];rfl)
   have h2:w5.heap[w3.heap.size]?=some (.cells (madeCells #[.int .u64 0] S) 40 (0,0)):=by rw [hw5];exact heap_alloc_new _ _
   have P5:=P.out w5 w2.heap.size w3.heap.size bP (Gr.trans Hb1.out (Gr.trans Hb2.out g25)) h1 h2 ((g25.block _ (blk_lt HP2.out)).trans HP2.out) ⟨by omega,by omega,by omega⟩
   rw [hw5] at P5
   refine P5.mono ?_
   rintro e w4 ⟨⟨ea,en,ec,va,vn,vc,rp,rfl,hrest⟩,hu⟩
   have hr4:=(hrest.1.block w.heap.size (blk_lt Hra.out)).trans Hra.out
   obtain⟨cs,w7,hcs,hsz,hst,hbk7,hch7⟩:=rep_store w4 w.heap.size (.slice ea en ec) (.slice va vn vc) rp hr4 rfl rfl
   rw [hcs]
   have Hcs:=Lib.hid hcs;have Hbk7:=Lib.hid hbk7;have Hch7:=Lib.hid hch7;have Hrest:=Lib.hid hrest;have Hu:=Lib.hid hu
   clear hr4 hrest hu hcs hbk7 hch7 hb3 hs3 hs2 hbP hw5 g35 g25 h1 h2 P5
   go_wp2
   have hld:=rep_load w7 w.heap.size cs Hbk7.out hsz
   refine bodyPost_ret (v:=.tuple #[.agg cs,.int .i64 0]) (by simp [results,Try.results23 ,Sem.run_bind,Sem.run_pure,asAddr,hld]) rfl ?_
   refine⟨ea,en,ec,va,vn,vc,rp,by rw [Hcs.out],PlayRest.chg Hrest.out Hch7.out (λb hb=>?_) (Gr.trans Hga.out Hu.out) (λb hb=>.inl hb)⟩
   have hb':b=w.heap.size:=hb
   exact⟨.inr hb',by omega,by have:=Hu.out.size;omega⟩
 ·have her:snCheck n k calls picks.length=ck:=by unfold snCheck;rw [<-Hck.out,if_pos (by simpa using hc0)]
  rw [her]
  have Her0:=Lib.hid hc0
  clear her
  go_enter Try.func23,Try.ntmps23
  go_wp2_with fail
  rw [<-Hwa.out]
  refine C.out.mono ?_
  rintro e w1 ⟨rfl,hb1⟩
  have hr1:=(hb1.block _ (blk_lt Hra.out)).trans Hra.out
  have Hb1:=Lib.hid hb1;have Hr1:=Lib.hid hr1
  have g0:w1.cell? ⟨w.heap.size,0,none⟩=some (.slice none 0 0):=by rw [cell_blk hr1];rfl
  have gf0:w1.frozen? ⟨w.heap.size,0,none⟩=false:=frozen_blk hr1 0
  have g1:w1.cell? ⟨w.heap.size,1,none⟩=some (.slice none 0 0):=by rw [cell_blk hr1];rfl
  have gf1:w1.frozen? ⟨w.heap.size,1,none⟩=false:=frozen_blk hr1 1
  have g2:w1.cell? ⟨w.heap.size,2,none⟩=some (.int .i64 0):=by rw [cell_blk hr1];rfl
  have gf2:w1.frozen? ⟨w.heap.size,2,none⟩=false:=frozen_blk hr1 2
  have g3:w1.cell? ⟨w.heap.size,3,none⟩=some (.int .i64 0):=by rw [cell_blk hr1];rfl
  have gf3:w1.frozen? ⟨w.heap.size,3,none⟩=false:=frozen_blk hr1 3
  have g4:w1.cell? ⟨w.heap.size,4,none⟩=some (.int .i64 0):=by rw [cell_blk hr1];rfl
  have gf4:w1.frozen? ⟨w.heap.size,4,none⟩=false:=frozen_blk hr1 4
  have g5:w1.cell? ⟨w.heap.size,5,none⟩=some (.int .i64 0):=by rw [cell_blk hr1];rfl
  have gf5:w1.frozen? ⟨w.heap.size,5,none⟩=false:=frozen_blk hr1 5
  have g6:w1.cell? ⟨w.heap.size,6,none⟩=some (.int .i64 0):=by rw [cell_blk hr1];rfl
  have gf6:w1.frozen? ⟨w.heap.size,6,none⟩=false:=frozen_blk hr1 6
  have g7:w1.cell? ⟨w.heap.size,7,none⟩=some (.int .i64 0):=by rw [cell_blk hr1];rfl
  have gf7:w1.frozen? ⟨w.heap.size,7,none⟩=false:=frozen_blk hr1 7
  have g8:w1.cell? ⟨w.heap.size,8,none⟩=some (.int .i64 0):=by rw [cell_blk hr1];rfl
  have gf8:w1.frozen? ⟨w.heap.size,8,none⟩=false:=frozen_blk hr1 8
  clear hr1 hb1
  go_wp2
  obtain⟨w7,hw7⟩:∃ w7,w7=(((((((((w1.setCell ⟨w.heap.size,0,none⟩ (.slice none 0 0)).setCell ⟨w.heap.size,1,none⟩ (.slice none 0 0)).setCell ⟨w.heap.size,2,none⟩ (.int .i64 0)).setCell ⟨w.heap.size,3,none⟩ (.int .i64 0)).setCell ⟨w.heap.size,4,none⟩ (.int .i64 0)).setCell ⟨w.heap.size,5,none⟩ (.int .i64 0)).setCell ⟨w.heap.size,6,none⟩ (.int .i64 0)).setCell ⟨w.heap.size,7,none⟩ (.int .i64 0)).setCell ⟨w.heap.size,8,none⟩ (.int .i64 0)):=⟨_,rfl⟩
  rw [<-hw7]
  have hr7:w7.heap[w.heap.size]?=some (.cells #[.slice none 0 0,.slice none 0 0,.int .i64 0,.int .i64 0,.int .i64 0,.int .i64 0,.int .i64 0,.int .i64 0,.int .i64 0] 32 (0,0)):=by rw [hw7,(blk_set (blk_set (blk_set (blk_set (blk_set (blk_set (blk_set (blk_set (blk_set Hr1.out _ _) _ _) _ _) _ _) _ _) _ _) _ _) _ _) _ _)];rfl
  have hch7:Chg (λb=>b=w.heap.size) w1 w7:=by rw [hw7];exact((((((((((Chg.refl (λb=>b=w.heap.size) w1).setCell (by exact .inl rfl) _).setCell (by exact .inl rfl) _).setCell (by exact .inl rfl) _).setCell (by exact .inl rfl) _).setCell (by exact .inl rfl) _).setCell (by exact .inl rfl) _).setCell (by exact .inl rfl) _).setCell (by exact .inl rfl) _).setCell (by exact .inl rfl) _)
  clear hw7
  have hld:=rep_load w7 w.heap.size _ hr7 rfl
  refine bodyPost_ret (v:=.tuple #[.agg #[.slice none 0 0,.slice none 0 0,.int .i64 0,.int .i64 0,.int .i64 0,.int .i64 0,.int .i64 0,.int .i64 0,.int .i64 0],.int .i64 ck]) (by simp [results,Try.results23 ,Sem.run_bind,Sem.run_pure,asAddr,hld]) rfl ?_
  have hall:Chg (λb=>w.heap.size<=b) w w7:=((Chg.of_below Hga.out).trans (Chg.of_below Hb1.out)).trans (hch7.mono (λb _ h=>by have h9:b=w.heap.size:=h;omega))
  exact⟨none,0,0,none,0,0,_,rfl,hall.below (λb h=>h) (Nat.le_refl _),.inl ⟨Her0.out,rfl,rfl,rfl,rfl,rfl,rfl,rfl⟩⟩
end Go.Proofs.Ytlepjmnhekeofaa
