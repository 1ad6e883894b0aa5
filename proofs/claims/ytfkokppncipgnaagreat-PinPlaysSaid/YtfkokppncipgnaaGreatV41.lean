/- Layer 14: pin.Play. -/
import Derived.Test.YtfkokppncipgnaaGreatV40
set_option maxRecDepth 100000
set_option linter.unusedVariables false
set_option linter.unusedSimpArgs false
set_option linter.unnecessarySimpa false
namespace Go.Proofs.YtfkokppncipgnaaGreat
section
open Go.RowKit
theorem make_size4 (size:Nat) (v:Int) (hv:v=(size:Int)) (h64:size<=1000000) (u:World):(Instr.makeSlice 28 (.int .i64 v) (.int .i64 v)).run Tryz.prog u=.ok (.slice (some ⟨u.heap.size,0,none⟩) size size) (u.alloc (.cells (madeCells #[.int .u64 0] size) 46)):=by
 subst hv
 obtain⟨i0,hi,hz0,hz1,hz2⟩:=info_parts u64_info'
 have h:=run_make (P:=Tryz.prog) u 28 46 i0 (.int .u64 0) Tryz.underlying28 hi hz0 .i64 .i64 (size:Int) (size:Int) (by omega) (Int.le_refl _) (by rw [hz2];omega) (by omega)
 simpa [hz1,Value.cells] using h
theorem zeros_sl4 {u:World} {b size:Nat} (h:u.heap[b]?=some (.cells (madeCells #[.int .u64 0] size) 46 (0,0))) (h64:size<=1000000):SlAt u (some ⟨b,0,none⟩) (List.replicate size 0).length 1 (u64G (List.replicate size 0)):=by
 refine⟨by rw [List.length_replicate];unfold maxLen;omega,λj hj=>⟨b,0,rfl,blk_lt h,λf hf=>?_⟩⟩
 obtain rfl:f=0:=by omega
 rw [List.length_replicate] at hj
 rw [cell_blk h,madeCells_one]
 simp [u64G,u64V,List.getD_eq_getElem?_getD,List.getElem?_replicate,hj]
def PinNewTo (n k:Nat) (w w':World) (e:Ending):Prop:=
 e=.returned (.pointer (some ⟨w.heap.size+1,0,none⟩))/\Below w.heap.size w w'/\w'.heap.size=w.heap.size+2/\w'.heap[w.heap.size+1]?=some (.cells (pinCells n k 0 0 w.heap.size) 111 (0,0))/\w'.heap[w.heap.size]?=some (.cells ((List.replicate (n+1) 0).map u64V).toArray 46 (0,0))
theorem pin_new (n k:Nat) (hn:n<=16) (w:World):Calls Tryz.prog 25 #[.int .i64 0,.int .i64 (n:Int),.int .i64 (k:Int)] w λe w'=>PinNewTo n k w w' e:=by
 have w1:IntKind.i64.wrap ((n:Int)+1)=(n:Int)+1:=by rw [IntKind.wrap_i64];omega
 have hmk:=make_size4 (n+1) ((n:Int)+1) (by omega) (by omega)
 obtain⟨m,hm⟩:∃ m,m=n+1:=⟨_,rfl⟩
 obtain⟨wa,hwa⟩:∃ wa,wa=w.alloc (.cells (madeCells #[.int .u64 0] m) 46):=⟨_,rfl⟩
 have hga:Below w.heap.size w wa:=by rw [hwa];exact Gr.new _ _
 have hsa:wa.heap.size=w.heap.size+1:=by rw [hwa];simp
 have hba:wa.heap[w.heap.size]?=some (.cells ((List.replicate m 0).map u64V).toArray 46 (0,0)):=by rw [hwa,heap_alloc_new,madeCells_one];simp [u64V]
 obtain⟨wb,hwb⟩:∃ wb,wb=wa.alloc (.cells #[.int .i64 0,.int .i64 (n:Int),.int .i64 (k:Int),.slice (some ⟨w.heap.size,0,none⟩) m m,.int .u64 0,.int .i64 0] 111):=⟨_,rfl⟩
 have F:=Lib.hid (show PinNewTo n k w wb (.returned (.pointer (some ⟨w.heap.size+1,0,none⟩))) from by
  refine⟨rfl,by rw [hwb];exact Gr.trans hga (Gr.new _ _),by rw [hwb];simp [hsa],?_,?_⟩
  ·rw [hwb,<-hsa,heap_alloc_new];unfold pinCells;rw [<-hm];rfl
  ·rw [hwb,Below.heap_alloc _ _ _ (by omega),<-hm];exact hba)
 rw [<-hm] at hmk
 have Hwa:=Lib.hid hwa;have Hwb:=Lib.hid hwb
 clear hwa hga hsa hba hm hwb
 go_enter Tryz.func25,Tryz.ntmps25
 go_wp2
 rw [<-Hwa.out]
 rw [<-Hwb.out]
 go_ret
 exact F.out
theorem pin_size (n k:Nat) (hn:n<=16) (hk:k<=8) (w:World):Calls Tryz.prog 26 #[.int .i64 (n:Int),.int .i64 (k:Int)] w λe w'=>e=.returned (.int .i64 ((1+(n+1)*(k+1):Nat):Int))/\Below w.heap.size w w':=by
 obtain⟨m,hm⟩:∃ m:Nat,m=(n+1)*(k+1):=⟨_,rfl⟩
 have hml:m<=1000:=by
  have:(n+1)*(k+1)<=17*9:=Nat.mul_le_mul (by omega) (by omega)
  omega
 have w1:IntKind.i64.wrap ((n:Int)+1)=(n:Int)+1:=by rw [IntKind.wrap_i64];omega
 have w2:IntKind.i64.wrap ((k:Int)+1)=(k:Int)+1:=by rw [IntKind.wrap_i64];omega
 have em:((n:Int)+1)*((k:Int)+1)=(m:Int):=by rw [hm];simp
 have w3:IntKind.i64.wrap (((n:Int)+1)*((k:Int)+1))=(m:Int):=by rw [em,IntKind.wrap_i64];omega
 have w4:IntKind.i64.wrap (1+(m:Int))=1+(m:Int):=by rw [IntKind.wrap_i64];omega
 have E:=Lib.hid (show((1+(n+1)*(k+1):Nat):Int)=1+(m:Int) by rw [<-hm];omega)
 rw [E.out]
 clear hm hml em hn hk
 go_enter Tryz.func26,Tryz.ntmps26
 go_wp2_with fail
 (try go_quiet (fail))
 go_wp2
 go_ret
 first|exact⟨rfl,Gr.refl _⟩|exact⟨rfl,below_drewN (Gr.refl w) nq⟩
def pinO0 (n:Nat):PinO:=⟨List.replicate (n+1) 0,0,0⟩
def piCheck (n k:Int) (calls:List CallD) (np:Nat):Int:=if checkN n calls np≠0 then checkN n calls np else if k<1∨8<k then 10 else 0
theorem piSafe_at {n k bP bC:Nat} {calls:List CallD} {st:PlayD (pinS n k)} {p:Int} (h:SafeAt (pinR n k 0 0) calls st p):SafeAt (pinR n k bP bC) calls st p:=h
theorem PlayToB.ret {O X X':Nat->Prop} {w0 w w':World} {er:Int} {r:RepD} {e:Ending} (h:PlayToB O X w w' er r e) (hb:Below w0.heap.size w0 w) (hO:∀ b,O b->w0.heap.size<=b) (hX:∀ b,X' b->X b):PlayRet X' w0 w' er r e:=by
 obtain⟨hc,h2⟩:=h
 have hb2:Below w0.heap.size w0 w':=(((Chg.of_below hb).trans (hc.mono (λb _ h=>hO b h)):Chg (λb=>w0.heap.size<=b) w0 w')).below (λb h=>h) (Nat.le_refl _)
 rcases h2 with⟨h0,rfl⟩|⟨h0,ea,ec,va,vc,ers,rfl,hr⟩
 ·exact⟨none,0,0,none,0,0,_,rfl,hb2,.inl ⟨h0,rfl,rfl,rfl,rfl,rfl,rfl,rfl⟩⟩
 ·exact⟨ea,_,ec,va,_,vc,r,by rw [h0],hb2,.inr ⟨h0,rfl,rfl,rfl,ers,hr.low hb.size hX⟩⟩
set_option maxHeartbeats 4000000 in
theorem pinPlay_any (X:Nat->Prop) (w:World) (n k:Int) (calls:List CallD) (picks:List Int) (ca pa:Option Addr) (cc pc:Nat) (hX:∀ b,X b->b<w.heap.size) (hc:CallsAt X w ca calls) (hp:PicksAt w pa picks) (hsf:checkN n calls picks.length=0->1<=k->k<=8->∀ l p m,picks=l++p::m->SafeAt (pinR n.toNat k.toNat 0 0) calls (picksD (pinS n.toNat k.toNat) calls (play0 (pinS n.toNat k.toNat) (pinO0 n.toNat) (List.replicate (1+(n.toNat+1)*(k.toNat+1)) 0) calls) l) p) :
  Calls Tryz.prog 13 #[.int .i64 n,.int .i64 k,.slice ca calls.length cc,.slice pa picks.length pc] w λe w'=>PlayRet X w w' (piCheck n k calls picks.length) (playD (pinS n.toNat k.toNat) (pinO0 n.toNat) (List.replicate (1+(n.toNat+1)*(k.toNat+1)) 0) calls picks) e:=by
 obtain⟨wa,hwa⟩:∃ wa,wa=w.alloc (.cells #[.slice none 0 0,.slice none 0 0,.int .i64 0,.int .i64 0,.int .i64 0,.int .i64 0,.int .i64 0,.int .i64 0,.int .i64 0] 32):=⟨_,rfl⟩
 have hga:Below w.heap.size w wa:=by rw [hwa];exact Gr.new _ _
 have hra:wa.heap[w.heap.size]?=some (.cells #[.slice none 0 0,.slice none 0 0,.int .i64 0,.int .i64 0,.int .i64 0,.int .i64 0,.int .i64 0,.int .i64 0,.int .i64 0] 32 (0,0)):=by rw [hwa];exact heap_alloc_new _ _
 have hsa:w.heap.size<wa.heap.size:=by rw [hwa];simp
 have C:=Lib.hid (check_any n calls picks.length ca pa cc pc wa (hc.sl.grown hga) hp.sl.1 (λx hx=>(hc.ok x hx).thread))
 have Hc:=Lib.hid hc;have Hp:=Lib.hid hp;have HX:=Lib.hid hX
 have Hwa:=Lib.hid hwa;have Hga:=Lib.hid hga;have Hra:=Lib.hid hra
 have hpl:=hp.sl.1
 unfold maxLen at hpl
 have Hsf:=Lib.hid hsf
 clear hc hp hX hwa hga hra hsf
 obtain⟨ck,hck⟩:∃ ck,ck=checkN n calls picks.length:=⟨_,rfl⟩
 rw [<-hck] at C
 have Hck:=Lib.hid hck
 clear hck
 by_cases hc0:ck=0
 ·obtain⟨hn1,hn16⟩:=n_ok (hc0 ▸ Hck.out).symm
  obtain⟨sz,rfl⟩:∃ sz:Nat,n=(sz:Int):=⟨n.toNat,by omega⟩
  have hs1:1<=sz:=by omega
  have hs16:sz<=16:=by omega
  by_cases hkb:k<1∨8<k
  ·have her:piCheck (sz:Int) k calls picks.length=10:=by unfold piCheck;rw [<-Hck.out,if_neg (by simpa using hc0),if_pos hkb]
   rw [her]
   have Hz:=Lib.hid (show(10:Int)≠0 by decide)
   subst hc0
   clear her
   have hkx:k<1∨(¬ k<1/\8<k):=by omega
   rcases hkx with hk1|⟨hk1,hk2⟩
   ·clear hkb
    go_enter Tryz.func13,Tryz.ntmps13
    go_wp2_with fail
    rw [<-Hwa.out]
    refine C.out.mono ?_
    rintro e w1 ⟨rfl,hb1⟩
    have hr1:=(hb1.block _ (blk_lt Hra.out)).trans Hra.out
    have Hb1:=Lib.hid hb1;have Hr1:=Lib.hid hr1
    have g0:w1.cell? ⟨w.heap.size,0,none⟩=some (.slice none 0 0):=by rw [cell_blk hr1];rfl
    have gf0:w1.frozen? ⟨w.heap.size,0,none⟩=false:=frozen_blk hr1 0
    have g1:w1.cell? ⟨w.heap.size,1,none⟩=some (.slice none 0 0):=by rw [cell_blk hr1];rfl
    have gf1:w1.frozen? ⟨w.heap.size,1,none⟩=false:=frozen_blk hr1 1
    have g2:w1.cell? ⟨w.heap.size,2,none⟩=some (.int .i64 0):=by rw [cell_blk hr1];rfl
    have gf2:w1.frozen? ⟨w.heap.size,2,none⟩=false:=frozen_blk hr1 2
    have g3:w1.cell? ⟨w.heap.size,3,none⟩=some (.int .i64 0):=by rw [cell_blk hr1];rfl
    have gf3:w1.frozen? ⟨w.heap.size,3,none⟩=false:=frozen_blk hr1 3
    have g4:w1.cell? ⟨w.heap.size,4,none⟩=some (.int .i64 0):=by rw [cell_blk hr1];rfl
    have gf4:w1.frozen? ⟨w.heap.size,4,none⟩=false:=frozen_blk hr1 4
    have g5:w1.cell? ⟨w.heap.size,5,none⟩=some (.int .i64 0):=by rw [cell_blk hr1];rfl
    have gf5:w1.frozen? ⟨w.heap.size,5,none⟩=false:=frozen_blk hr1 5
    have g6:w1.cell? ⟨w.heap.size,6,none⟩=some (.int .i64 0):=by rw [cell_blk hr1];rfl
    have gf6:w1.frozen? ⟨w.heap.size,6,none⟩=false:=frozen_blk hr1 6
    have g7:w1.cell? ⟨w.heap.size,7,none⟩=some (.int .i64 0):=by rw [cell_blk hr1];rfl
    have gf7:w1.frozen? ⟨w.heap.size,7,none⟩=false:=frozen_blk hr1 7
    have g8:w1.cell? ⟨w.heap.size,8,none⟩=some (.int .i64 0):=by rw [cell_blk hr1];rfl
    have gf8:w1.frozen? ⟨w.heap.size,8,none⟩=false:=frozen_blk hr1 8
    clear hr1 hb1
    go_wp2
    obtain⟨w7,hw7⟩:∃ w7,w7=(((((((((w1.setCell ⟨w.heap.size,0,none⟩ (.slice none 0 0)).setCell ⟨w.heap.size,1,none⟩ (.slice none 0 0)).setCell ⟨w.heap.size,2,none⟩ (.int .i64 0)).setCell ⟨w.heap.size,3,none⟩ (.int .i64 0)).setCell ⟨w.heap.size,4,none⟩ (.int .i64 0)).setCell ⟨w.heap.size,5,none⟩ (.int .i64 0)).setCell ⟨w.heap.size,6,none⟩ (.int .i64 0)).setCell ⟨w.heap.size,7,none⟩ (.int .i64 0)).setCell ⟨w.heap.size,8,none⟩ (.int .i64 0)):=⟨_,rfl⟩
    rw [<-hw7]
    have hr7:w7.heap[w.heap.size]?=some (.cells #[.slice none 0 0,.slice none 0 0,.int .i64 0,.int .i64 0,.int .i64 0,.int .i64 0,.int .i64 0,.int .i64 0,.int .i64 0] 32 (0,0)):=by rw [hw7,(blk_set (blk_set (blk_set (blk_set (blk_set (blk_set (blk_set (blk_set (blk_set Hr1.out _ _) _ _) _ _) _ _) _ _) _ _) _ _) _ _) _ _)];rfl
    have hch7:Chg (λb=>b=w.heap.size) w1 w7:=by rw [hw7];exact((((((((((Chg.refl (λb=>b=w.heap.size) w1).setCell (by exact .inl rfl) _).setCell (by exact .inl rfl) _).setCell (by exact .inl rfl) _).setCell (by exact .inl rfl) _).setCell (by exact .inl rfl) _).setCell (by exact .inl rfl) _).setCell (by exact .inl rfl) _).setCell (by exact .inl rfl) _).setCell (by exact .inl rfl) _)
    clear hw7
    have hld:=rep_load w7 w.heap.size _ hr7 rfl
    refine bodyPost_ret (v:=.tuple #[.agg #[.slice none 0 0,.slice none 0 0,.int .i64 0,.int .i64 0,.int .i64 0,.int .i64 0,.int .i64 0,.int .i64 0,.int .i64 0],.int .i64 10]) (by simp [results,Tryz.results13 ,Sem.run_bind,Sem.run_pure,asAddr,hld]) rfl ?_
    have hall:Chg (λb=>w.heap.size<=b) w w7:=((Chg.of_below Hga.out).trans (Chg.of_below Hb1.out)).trans (hch7.mono (λb _ h=>by have h9:b=w.heap.size:=h;omega))
    exact⟨none,0,0,none,0,0,_,rfl,hall.below (λb h=>h) (Nat.le_refl _),.inl ⟨Hz.out,rfl,rfl,rfl,rfl,rfl,rfl,rfl⟩⟩
   ·clear hkb
    go_enter Tryz.func13,Tryz.ntmps13
    go_wp2_with fail
    rw [<-Hwa.out]
    refine C.out.mono ?_
    rintro e w1 ⟨rfl,hb1⟩
    have hr1:=(hb1.block _ (blk_lt Hra.out)).trans Hra.out
    have Hb1:=Lib.hid hb1;have Hr1:=Lib.hid hr1
    have g0:w1.cell? ⟨w.heap.size,0,none⟩=some (.slice none 0 0):=by rw [cell_blk hr1];rfl
    have gf0:w1.frozen? ⟨w.heap.size,0,none⟩=false:=frozen_blk hr1 0
    have g1:w1.cell? ⟨w.heap.size,1,none⟩=some (.slice none 0 0):=by rw [cell_blk hr1];rfl
    have gf1:w1.frozen? ⟨w.heap.size,1,none⟩=false:=frozen_blk hr1 1
    have g2:w1.cell? ⟨w.heap.size,2,none⟩=some (.int .i64 0):=by rw [cell_blk hr1];rfl
    have gf2:w1.frozen? ⟨w.heap.size,2,none⟩=false:=frozen_blk hr1 2
    have g3:w1.cell? ⟨w.heap.size,3,none⟩=some (.int .i64 0):=by rw [cell_blk hr1];rfl
    have gf3:w1.frozen? ⟨w.heap.size,3,none⟩=false:=frozen_blk hr1 3
    have g4:w1.cell? ⟨w.heap.size,4,none⟩=some (.int .i64 0):=by rw [cell_blk hr1];rfl
    have gf4:w1.frozen? ⟨w.heap.size,4,none⟩=false:=frozen_blk hr1 4
    have g5:w1.cell? ⟨w.heap.size,5,none⟩=some (.int .i64 0):=by rw [cell_blk hr1];rfl
    have gf5:w1.frozen? ⟨w.heap.size,5,none⟩=false:=frozen_blk hr1 5
    have g6:w1.cell? ⟨w.heap.size,6,none⟩=some (.int .i64 0):=by rw [cell_blk hr1];rfl
    have gf6:w1.frozen? ⟨w.heap.size,6,none⟩=false:=frozen_blk hr1 6
    have g7:w1.cell? ⟨w.heap.size,7,none⟩=some (.int .i64 0):=by rw [cell_blk hr1];rfl
    have gf7:w1.frozen? ⟨w.heap.size,7,none⟩=false:=frozen_blk hr1 7
    have g8:w1.cell? ⟨w.heap.size,8,none⟩=some (.int .i64 0):=by rw [cell_blk hr1];rfl
    have gf8:w1.frozen? ⟨w.heap.size,8,none⟩=false:=frozen_blk hr1 8
    clear hr1 hb1
    go_wp2
    obtain⟨w7,hw7⟩:∃ w7,w7=(((((((((w1.setCell ⟨w.heap.size,0,none⟩ (.slice none 0 0)).setCell ⟨w.heap.size,1,none⟩ (.slice none 0 0)).setCell ⟨w.heap.size,2,none⟩ (.int .i64 0)).setCell ⟨w.heap.size,3,none⟩ (.int .i64 0)).setCell ⟨w.heap.size,4,none⟩ (.int .i64 0)).setCell ⟨w.heap.size,5,none⟩ (.int .i64 0)).setCell ⟨w.heap.size,6,none⟩ (.int .i64 0)).setCell ⟨w.heap.size,7,none⟩ (.int .i64 0)).setCell ⟨w.heap.size,8,none⟩ (.int .i64 0)):=⟨_,rfl⟩
    rw [<-hw7]
    have hr7:w7.heap[w.heap.size]?=some (.cells #[.slice none 0 0,.slice none 0 0,.int .i64 0,.int .i64 0,.int .i64 0,.int .i64 0,.int .i64 0,.int .i64 0,.int .i64 0] 32 (0,0)):=by rw [hw7,(blk_set (blk_set (blk_set (blk_set (blk_set (blk_set (blk_set (blk_set (blk_set Hr1.out _ _) _ _) _ _) _ _) _ _) _ _) _ _) _ _) _ _)];rfl
    have hch7:Chg (λb=>b=w.heap.size) w1 w7:=by rw [hw7];exact((((((((((Chg.refl (λb=>b=w.heap.size) w1).setCell (by exact .inl rfl) _).setCell (by exact .inl rfl) _).setCell (by exact .inl rfl) _).setCell (by exact .inl rfl) _).setCell (by exact .inl rfl) _).setCell (by exact .inl rfl) _).setCell (by exact .inl rfl) _).setCell (by exact .inl rfl) _).setCell (by exact .inl rfl) _)
    clear hw7
    have hld:=rep_load w7 w.heap.size _ hr7 rfl
    refine bodyPost_ret (v:=.tuple #[.agg #[.slice none 0 0,.slice none 0 0,.int .i64 0,.int .i64 0,.int .i64 0,.int .i64 0,.int .i64 0,.int .i64 0,.int .i64 0],.int .i64 10]) (by simp [results,Tryz.results13 ,Sem.run_bind,Sem.run_pure,asAddr,hld]) rfl ?_
    have hall:Chg (λb=>w.heap.size<=b) w w7:=((Chg.of_below Hga.out).trans (Chg.of_below Hb1.out)).trans (hch7.mono (λb _ h=>by have h9:b=w.heap.size:=h;omega))
    exact⟨none,0,0,none,0,0,_,rfl,hall.below (λb h=>h) (Nat.le_refl _),.inl ⟨Hz.out,rfl,rfl,rfl,rfl,rfl,rfl,rfl⟩⟩
  ·obtain⟨kk,rfl⟩:∃ kk:Nat,k=(kk:Int):=⟨k.toNat,by omega⟩
   have hk1:1<=kk:=by omega
   have hk8:kk<=8:=by omega
   have her:piCheck (sz:Int) (kk:Int) calls picks.length=0:=by unfold piCheck;rw [<-Hck.out,if_neg (by simpa using hc0),if_neg hkb]
   rw [her]
   simp only [Int.toNat_natCast] at Hsf ⊢
   obtain⟨S,hS⟩:∃ S,S=1+(sz+1)*(kk+1):=⟨_,rfl⟩
   have hSl:S<=1000:=by
    have:(sz+1)*(kk+1)<=17*9:=Nat.mul_le_mul (by omega) (by omega)
    omega
   have P:=Lib.hid (λ(u:World) (bo bw bP bC:Nat) (hu:Below wa.heap.size wa u) (h1:u.cell? ⟨bo,0,none⟩=some (.iface 64 (.pointer (some ⟨bP,0,none⟩)))) (h2:u.heap[bw]?=some (.cells (madeCells #[.int .u64 0] S) 46 (0,0))) (h3:u.heap[bP]?=some (.cells (pinCells sz kk 0 0 bC) 111 (0,0))) (h4:u.heap[bC]?=some (.cells ((List.replicate (sz+1) 0).map u64V).toArray 46 (0,0)))
     (hq:wa.heap.size<=bP/\wa.heap.size<=bC/\bP≠bC/\wa.heap.size<=bo/\bo≠bP/\bo≠bC)=>
    (playB_any (X:=λb=>(X b∨b=w.heap.size)∨(b=bP∨b=bC)) (R:=pinR sz kk bP bC) (pin_ok sz kk bP bC hs16 hk8 hq.2.2.1) (pin_nolate sz kk bP bC) (by show 1<=1000;omega) u (pinO0 sz) sz calls (List.replicate S 0) picks (.slice (some ⟨bo,0,none⟩) 1 1) (.slice ca calls.length cc) (.slice (some ⟨bw,0,none⟩) (List.replicate S 0).length S) pa pc
     ⟨⟨ca,cc,rfl,Hc.out.sl.grown (Gr.trans Hga.out hu),λhl b off e hx=>by
      obtain⟨b0,off0,e0,hb0⟩:=Hc.out.sl.lt hl
      rcases hx with(hx|hx)|hx
      ·exact Hc.out.nx hl b off e hx
      ·rw [e0] at e;cases e;omega
      ·rw [e0] at e;cases e;omega⟩,Hc.out.ok,⟨bo,0,1,rfl,h1,λhx=>by rcases hx with(hx|hx)|hx;have:=HX.out bo hx;omega;omega;omega⟩,⟨_,S,rfl,zeros_sl4 h2 (by omega),λe=>by cases e⟩,by rw [List.length_replicate];omega,λx hx=>by rw [(List.mem_replicate.1 hx).2];omega,λb hb=>.inr hb,
      λv M hv hM=>⟨⟨(hv.block _ (blk_lt h3)).trans h3,(hv.block _ (blk_lt h4)).trans h4,by simp [pinO0],λx hx=>by rw [(List.mem_replicate.1 hx).2];omega,by simp [pinO0],by simp [pinO0]⟩,hM bP (.inl rfl),hM bC (.inr rfl)⟩,trivial,λb hx=>by
       have:=hu.size
       rcases hx with(hx|hx)|hx|hx
       ·have:=HX.out b hx;omega
       ·omega
       ·rw [hx];exact blk_lt h3
       ·rw [hx];exact blk_lt h4⟩ (Hp.out.sl.grown (Gr.trans Hga.out hu)) (λhl b off e hx=>by
      obtain⟨b0,off0,e0,hb0⟩:=Hp.out.sl.lt hl
      rw [e0] at e;cases e
      rcases hx with hx|hx<;>omega) Hp.out.ok (λh l p m hl=>by rw [hS];exact piSafe_at (Hsf.out h (by omega) (by omega) l p m hl))).mono (λe w' h=>(⟨PlayToB.ret h (X':=λb=>X b∨b=w.heap.size) hu (λb hb=>by rcases hb with hb|hb<;>omega) (λb hb=>.inl hb),Gr.refl _⟩:PlayRet (λb=>X b∨b=w.heap.size) wa w' (checkN sz calls picks.length) (playD (pinS sz kk) (pinO0 sz) (List.replicate S 0) calls picks) e/\Below wa.heap.size wa wa)))
   have N:=Lib.hid (pin_new sz kk hs16)
   have Z:=Lib.hid (pin_size sz kk hs16 hk8)
   rw [<-hS] at Z
   have hmk:=make_size4 S (S:Int) rfl (by omega)
   rw [<-hS]
   obtain⟨rr,hrr⟩:∃ rr,rr=playD (pinS sz kk) (pinO0 sz) (List.replicate S 0) calls picks:=⟨_,rfl⟩
   rw [<-Hck.out,hc0,<-hrr] at P
   rw [<-hrr]
   simp only [List.length_replicate] at P
   have l1:¬ (kk:Int)<1:=by omega
   have l2:¬ (8:Int)<(kk:Int):=by omega
   subst hc0
   clear hrr her hS hkb hk8 hSl
   go_enter Tryz.func13,Tryz.ntmps13
   go_wp2_with fail
   rw [<-Hwa.out]
   refine C.out.mono ?_
   rintro e w1 ⟨rfl,hb1⟩
   have Hb1:=Lib.hid hb1
   clear hb1
   go_wp2_with fail
   refine(N.out _).mono ?_
   rintro e w2 ⟨rfl,hb2,hs2,hP2,hC2⟩
   have hwa1:=Hb1.out.size
   obtain⟨bP,hbP⟩:∃ bP,bP=w1.heap.size+1:=⟨_,rfl⟩
   obtain⟨bC,hbC⟩:∃ bC,bC=w1.heap.size:=⟨_,rfl⟩
   rw [<-hbP,<-hbC] at hP2
   rw [<-hbC] at hC2
   rw [<-hbP]
   have Hb2:=Lib.hid hb2;have Hs2:=Lib.hid hs2;have HP2:=Lib.hid hP2;have HC2:=Lib.hid hC2;have HbP:=Lib.hid hbP;have HbC:=Lib.hid hbC
   clear hb2 hs2 hP2 hC2 hbP hbC
   go_wp2_with fail
   refine(Z.out _).mono ?_
   rintro e w3 ⟨rfl,hb3⟩
   have Hb3:=Lib.hid hb3
   clear hb3
   go_wp2_with fail
   have hb3:=Hb3.out
   have hs3:=hb3.size
   simp only [World.size_alloc] at hs3
   have hs2:=Hs2.out;have hbP:=HbP.out;have hbC:=HbC.out
   obtain⟨w5,hw5⟩:∃ w5,w5=w3.alloc (.cells (madeCells #[.int .u64 0] S) 46):=⟨_,rfl⟩
   have g35:Below w3.heap.size w3 w5:=by rw [hw5];exact Gr.new _ _
   have g25:Below w2.heap.size w2 w5:=Gr.trans (Gr.new _ _) (Gr.trans hb3 g35)
   have h1:w5.cell? ⟨w2.heap.size,0,none⟩=some (.iface 64 (.pointer (some ⟨bP,0,none⟩))):=((Gr.trans hb3 g35).cell (p:=⟨w2.heap.size,0,none⟩) (by simp)).trans (by rw [cell_new];rfl)
   have h2:w5.heap[w3.heap.size]?=some (.cells (madeCells #[.int .u64 0] S) 46 (0,0)):=by rw [hw5];exact heap_alloc_new _ _
   have P5:=P.out w5 w2.heap.size w3.heap.size bP bC (Gr.trans Hb1.out (Gr.trans Hb2.out g25)) h1 h2 ((g25.block _ (blk_lt HP2.out)).trans HP2.out) ((g25.block _ (blk_lt HC2.out)).trans HC2.out) ⟨by omega,by omega,by omega,by omega,by omega,by omega⟩
   rw [hw5] at P5
   refine P5.mono ?_
   rintro e w4 ⟨⟨ea,en,ec,va,vn,vc,rp,rfl,hrest⟩,hu⟩
   have hr4:=(hrest.1.block w.heap.size (blk_lt Hra.out)).trans Hra.out
   obtain⟨cs,w7,hcs,hsz,hst,hbk7,hch7⟩:=rep_store w4 w.heap.size (.slice ea en ec) (.slice va vn vc) rp hr4 rfl rfl
   rw [hcs]
   have Hcs:=Lib.hid hcs;have Hbk7:=Lib.hid hbk7;have Hch7:=Lib.hid hch7;have Hrest:=Lib.hid hrest;have Hu:=Lib.hid hu
   clear hr4 hrest hu hcs hbk7 hch7 hb3 hs3 hs2 hbP hbC hw5 g35 g25 h1 h2 P5
   go_wp2
   have hld:=rep_load w7 w.heap.size cs Hbk7.out hsz
   refine bodyPost_ret (v:=.tuple #[.agg cs,.int .i64 0]) (by simp [results,Tryz.results13 ,Sem.run_bind,Sem.run_pure,asAddr,hld]) rfl ?_
   refine⟨ea,en,ec,va,vn,vc,rp,by rw [Hcs.out],PlayRest.chg Hrest.out Hch7.out (λb hb=>?_) (Gr.trans Hga.out Hu.out) (λb hb=>.inl hb)⟩
   have hb':b=w.heap.size:=hb
   exact⟨.inr hb',by omega,by have:=Hu.out.size;omega⟩
 ·have her:piCheck n k calls picks.length=ck:=by unfold piCheck;rw [<-Hck.out,if_pos (by simpa using hc0)]
  rw [her]
  have Her0:=Lib.hid hc0
  clear her
  go_enter Tryz.func13,Tryz.ntmps13
  go_wp2_with fail
  rw [<-Hwa.out]
  refine C.out.mono ?_
  rintro e w1 ⟨rfl,hb1⟩
  have hr1:=(hb1.block _ (blk_lt Hra.out)).trans Hra.out
  have Hb1:=Lib.hid hb1;have Hr1:=Lib.hid hr1
  have g0:w1.cell? ⟨w.heap.size,0,none⟩=some (.slice none 0 0):=by rw [cell_blk hr1];rfl
  have gf0:w1.frozen? ⟨w.heap.size,0,none⟩=false:=frozen_blk hr1 0
  have g1:w1.cell? ⟨w.heap.size,1,none⟩=some (.slice none 0 0):=by rw [cell_blk hr1];rfl
  have gf1:w1.frozen? ⟨w.heap.size,1,none⟩=false:=frozen_blk hr1 1
  have g2:w1.cell? ⟨w.heap.size,2,none⟩=some (.int .i64 0):=by rw [cell_blk hr1];rfl
  have gf2:w1.frozen? ⟨w.heap.size,2,none⟩=false:=frozen_blk hr1 2
  have g3:w1.cell? ⟨w.heap.size,3,none⟩=some (.int .i64 0):=by rw [cell_blk hr1];rfl
  have gf3:w1.frozen? ⟨w.heap.size,3,none⟩=false:=frozen_blk hr1 3
  have g4:w1.cell? ⟨w.heap.size,4,none⟩=some (.int .i64 0):=by rw [cell_blk hr1];rfl
  have gf4:w1.frozen? ⟨w.heap.size,4,none⟩=false:=frozen_blk hr1 4
  have g5:w1.cell? ⟨w.heap.size,5,none⟩=some (.int .i64 0):=by rw [cell_blk hr1];rfl
  have gf5:w1.frozen? ⟨w.heap.size,5,none⟩=false:=frozen_blk hr1 5
  have g6:w1.cell? ⟨w.heap.size,6,none⟩=some (.int .i64 0):=by rw [cell_blk hr1];rfl
  have gf6:w1.frozen? ⟨w.heap.size,6,none⟩=false:=frozen_blk hr1 6
  have g7:w1.cell? ⟨w.heap.size,7,none⟩=some (.int .i64 0):=by rw [cell_blk hr1];rfl
  have gf7:w1.frozen? ⟨w.heap.size,7,none⟩=false:=frozen_blk hr1 7
  have g8:w1.cell? ⟨w.heap.size,8,none⟩=some (.int .i64 0):=by rw [cell_blk hr1];rfl
  have gf8:w1.frozen? ⟨w.heap.size,8,none⟩=false:=frozen_blk hr1 8
  clear hr1 hb1
  go_wp2
  obtain⟨w7,hw7⟩:∃ w7,w7=(((((((((w1.setCell ⟨w.heap.size,0,none⟩ (.slice none 0 0)).setCell ⟨w.heap.size,1,none⟩ (.slice none 0 0)).setCell ⟨w.heap.size,2,none⟩ (.int .i64 0)).setCell ⟨w.heap.size,3,none⟩ (.int .i64 0)).setCell ⟨w.heap.size,4,none⟩ (.int .i64 0)).setCell ⟨w.heap.size,5,none⟩ (.int .i64 0)).setCell ⟨w.heap.size,6,none⟩ (.int .i64 0)).setCell ⟨w.heap.size,7,none⟩ (.int .i64 0)).setCell ⟨w.heap.size,8,none⟩ (.int .i64 0)):=⟨_,rfl⟩
  rw [<-hw7]
  have hr7:w7.heap[w.heap.size]?=some (.cells #[.slice none 0 0,.slice none 0 0,.int .i64 0,.int .i64 0,.int .i64 0,.int .i64 0,.int .i64 0,.int .i64 0,.int .i64 0] 32 (0,0)):=by rw [hw7,(blk_set (blk_set (blk_set (blk_set (blk_set (blk_set (blk_set (blk_set (blk_set Hr1.out _ _) _ _) _ _) _ _) _ _) _ _) _ _) _ _) _ _)];rfl
  have hch7:Chg (λb=>b=w.heap.size) w1 w7:=by rw [hw7];exact((((((((((Chg.refl (λb=>b=w.heap.size) w1).setCell (by exact .inl rfl) _).setCell (by exact .inl rfl) _).setCell (by exact .inl rfl) _).setCell (by exact .inl rfl) _).setCell (by exact .inl rfl) _).setCell (by exact .inl rfl) _).setCell (by exact .inl rfl) _).setCell (by exact .inl rfl) _).setCell (by exact .inl rfl) _)
  clear hw7
  have hld:=rep_load w7 w.heap.size _ hr7 rfl
  refine bodyPost_ret (v:=.tuple #[.agg #[.slice none 0 0,.slice none 0 0,.int .i64 0,.int .i64 0,.int .i64 0,.int .i64 0,.int .i64 0,.int .i64 0,.int .i64 0],.int .i64 ck]) (by simp [results,Tryz.results13 ,Sem.run_bind,Sem.run_pure,asAddr,hld]) rfl ?_
  have hall:Chg (λb=>w.heap.size<=b) w w7:=((Chg.of_below Hga.out).trans (Chg.of_below Hb1.out)).trans (hch7.mono (λb _ h=>by have h9:b=w.heap.size:=h;omega))
  exact⟨none,0,0,none,0,0,_,rfl,hall.below (λb h=>h) (Nat.le_refl _),.inl ⟨Her0.out,rfl,rfl,rfl,rfl,rfl,rfl,rfl⟩⟩
end
section

/- Layer 14: what every play of a register keeps. -/
open Go.RowKit
variable {n k:Nat} {calls:List CallD}
theorem pi_turn (hn:1<=n) (hn16:n<=16) (hk1:1<=k) (hthr:∀ c,c<calls.length->0<=(calls.getD c d0).thread/\(calls.getD c d0).thread<n) {st st':PlayD (pinS n k)} (ht:st.wd.now<=1000000) (hg:StGood calls st) (h:PiInv n k calls st) (hT:Turn calls st st'):PiInv n k calls st':=by
 cases hT with
 | idle=>exact⟨h.w,h.hand,h.cont,h.done⟩
 | refuse q i er hq hN hh hs=>exact pi_refuse hg h hq hN hh hs
 | step q i j s evs0 wd0 hq hN hf=>
  match s,hf with
  | .wr v q' iw 0,hf=>exact pi_step_look hn hk1 hthr hg h hq hN hf
  | .wr v q' iw 1,hf=>exact pi_step_fill hn hthr hg h hq hN hf
  | .wr v q' iw (ph+2),hf=>exact pi_step_change hn hn16 ht hthr hg h hq hN hf
  | .rd q' 0 l key,hf=>exact pi_step_come hn hn16 ht hthr hg h hq hN hf
  | .rd q' (j'+1) l key,hf=>
   by_cases hjk:j'<k
   ·exact pi_step_read hn hjk hthr hg h hq hN hf
   ·exact pi_step_leave hn hjk ht hthr hg h hq hN hf
theorem pi_play0 (n k:Nat) (calls:List CallD):PiInv n k calls (play0 (pinS n k) (pinO0 n) (List.replicate (1+(n+1)*(k+1)) 0) calls):=by
 have hw:∀ a,(List.replicate (1+(n+1)*(k+1)) 0).getD a 0=0:=λa=>getD_rep'
 have hH:∀ q,piH q (List.replicate 16 ((none:Option PiS),0))=0:=λq=>by simp [piH,List.countP_replicate,piAt]
 refine⟨⟨?_,?_,Nat.zero_le _,⟨0,?_,Nat.le_refl _,Nat.le_refl _,λq hq=>?_⟩,λq hq=>?_⟩,λp s j hp=>?_,λq hq _=>.inl λa ha=>hw _,λj hj=>absurd hj (Nat.not_lt_zero _)⟩
 ·show(List.replicate _ 0).length=_;simp
 ·show(List.replicate (n+1) 0).length=_;simp
 ·show(List.replicate _ 0).getD 0 0=0*4294967296+0;rw [hw]
 ·show(List.replicate (n+1) 0).getD q 0+(if q=0 then 0 - 0 else 0)=(List.replicate _ 0).getD (1+q) 0+piH q (List.replicate 16 ((none:Option PiS),0))
  rw [hw,hH,getD_rep'];simp
 ·show(List.replicate (n+1) 0).getD q 0<=0
  rw [getD_rep'];exact Nat.le_refl _
 ·rw [show(play0 (pinS n k) (pinO0 n) (List.replicate (1+(n+1)*(k+1)) 0) calls).hands.getD p (none,0)=(none,0) from getD_rep'] at hp;cases hp
theorem pi_picks {np:Nat} (hk1:1<=k) (hck:checkN n calls np=0) (hk:k<=8) (l:List Int):StGood calls (picksD (pinS n k) calls (play0 (pinS n k) (pinO0 n) (List.replicate (1+(n+1)*(k+1)) 0) calls) l)/\((picksD (pinS n k) calls (play0 (pinS n k) (pinO0 n) (List.replicate (1+(n+1)*(k+1)) 0) calls) l).wd.now<=1000000->PiInv n k calls (picksD (pinS n k) calls (play0 (pinS n k) (pinO0 n) (List.replicate (1+(n+1)*(k+1)) 0) calls) l)):=by
 obtain⟨hn1,hn16⟩:=n_ok hck
 have hthr':=thr_16 hck
 have hthr:∀ c,c<calls.length->0<=(calls.getD c d0).thread/\(calls.getD c d0).thread<n:=λc hc=>by have:=thr_ok hck c hc;omega
 refine picks_ind (S:=pinS n k) (pin_ok n k 0 1 (by omega) hk (by decide)).now hthr' (J:=λst=>st.wd.now<=1000000->PiInv n k calls st) (λst st' hg _ hj hT ht=>?_) l (play0_good (S:=pinS n k) calls (pinO0 n) (List.replicate (1+(n+1)*(k+1)) 0)) (λ_=>pi_play0 n k calls)
 have hm:st.wd.now<=st'.wd.now:=by
  cases hT with
  | idle=>exact Nat.le_refl _
  | refuse q i er hq hN hh hs=>exact Nat.le_succ _
  | step q i j s evs0 wd0 hq hN hf=>
   have h1:=(pin_ok n k 0 1 (by omega) hk (by decide)).now st.obj wd0 q s
   have h2:=hf.now
   show st.wd.now<=((pinS n k).step st.obj wd0 q s).2.1.now
   omega
 exact pi_turn (by omega) (by omega) hk1 hthr (by omega) hg (hj (by omega)) hT
theorem pi_safe (hk1:1<=k) (hk:k<=8) {picks:List Int} (hck:checkN n calls picks.length=0):∀ l p m,picks=l++p::m->SafeAt (pinR n k 0 0) calls (picksD (pinS n k) calls (play0 (pinS n k) (pinO0 n) (List.replicate (1+(n+1)*(k+1)) 0) calls) l) p:=by
 intro l p m hl i hN
 obtain⟨hn1,hn16⟩:=n_ok hck
 have hnp:=np_ok hck
 have hll:l.length<picks.length:=by rw [hl];simp
 have htk:=picks_ticks (S:=pinS n k) (pin_ok n k 0 1 (by omega) hk (by decide)).now (play0 (pinS n k) (pinO0 n) (List.replicate (1+(n+1)*(k+1)) 0) calls) l (calls:=calls)
 rw [show(play0 (pinS n k) (pinO0 n) (List.replicate (1+(n+1)*(k+1)) 0) calls).wd.now=0 from rfl,show(play0 (pinS n k) (pinO0 n) (List.replicate (1+(n+1)*(k+1)) 0) calls).idle=0 from rfl] at htk
 obtain⟨a,b⟩:=pi_picks hk1 hck hk l
 have b:=b (by omega)
 have hthr:∀ c,c<calls.length->0<=(calls.getD c d0).thread/\(calls.getD c d0).thread<n:=λc hc=>by have:=thr_ok hck c hc;omega
 obtain⟨n1,n2,n3⟩:=nowN_spec hN
 have ht:=thr_16 hck i n1
 obtain⟨q,rfl⟩:∃ q:Nat,p=(q:Int):=⟨p.toNat,by omega⟩
 simp only [Int.toNat_natCast]
 refine⟨λs j hh=>?_,λhh s hs=>?_⟩
 ·obtain⟨k1,k2,k3,k4⟩:=a.ev.hand q j (by unfold hndOf;rw [hh];rfl)
  have hc:(evAt (picksD (pinS n k) calls (play0 (pinS n k) (pinO0 n) (List.replicate (1+(n+1)*(k+1)) 0) calls) l).evs j).call=i:=by rw [hN] at k4;exact(Option.some.inj k4).symm
  exact pi_live (by omega) hk (pi_pre (by omega) hthr a b (.old j s hh k1 hc k3)).2.1
 ·exact pi_live (by omega) hk (pi_pre (by omega) hthr a b (.new s hh hs)).2.1
end
end Go.Proofs.YtfkokppncipgnaaGreat
