/- Layer 10: maxreg.Play. -/
import Derived.Test.YtlanekkbciffcaaF26
import Derived.Test.YtlanekkbciffcaaF29
import Derived.Test.YtlanekkbciffcaaF16
set_option maxRecDepth 100000
set_option linter.unusedVariables false
set_option linter.unusedSimpArgs false
set_option linter.unnecessarySimpa false
namespace Go.Proofs.Ytlanekkbciffcaa
section
open Go.RowKit
theorem max_new (m:Nat) (w:World):Calls Try.prog 37 #[.int .i64 0,.int .i64 (m:Int)] w λe w'=>e=.returned (.agg #[.int .i64 0,.int .i64 (m:Int)])/\Below w.heap.size w w':=by
 go_enter Try.func37,Try.ntmps37
 go_wp2
 exact bodyPost_ret (v:=.agg #[.int .i64 0,.int .i64 (m:Int)]) (by simp [results,Try.results37 ,go_sem]) rfl ⟨rfl,Gr.new _ _⟩
theorem max_size (m:Nat) (hm:m<=12) (w:World):Calls Try.prog 38 #[.int .i64 (m:Int)] w λe w'=>e=.returned (.int .i64 ((2^m - 1:Nat):Int))/\w=w':=by
 have h1:=Nat.two_pow_pos m
 have hp:2^m<=4096:=Nat.pow_le_pow_right (n:=2) (by decide) hm
 have e0:((2^m - 1:Nat):Int)=(2:Int)^m - 1:=by
  rw [Int.ofNat_sub h1];simp
 have e1:((2^m:Nat):Int)=(2:Int)^m:=by simp
 have w1:IntKind.i64.wrap ((2:Int)^m)=(2:Int)^m:=by rw [<-e1,IntKind.wrap_i64];omega
 have w2:IntKind.i64.wrap ((2:Int)^m - 1)=(2:Int)^m - 1:=by rw [<-e1,IntKind.wrap_i64];omega
 have hmi:(m:Int)<=12:=by omega
 rw [e0]
 clear e0 e1 h1 hp
 go_enter Try.func38,Try.ntmps38
 go_wp2
 go_ret
 exact⟨rfl,rfl⟩
theorem make_sizeM (size:Nat) (v:Int) (hv:v=(size:Int)) (h64:size<=1000000) (u:World):(Instr.makeSlice 28 (.int .i64 v) (.int .i64 v)).run Try.prog u=.ok (.slice (some ⟨u.heap.size,0,none⟩) size size) (u.alloc (.cells (madeCells #[.int .u64 0] size) 37)):=by
 subst hv
 obtain⟨i0,hi,hz0,hz1,hz2⟩:=info_parts u64_info'
 have h:=run_make (P:=Try.prog) u 28 37 i0 (.int .u64 0) Try.underlying28 hi hz0 .i64 .i64 (size:Int) (size:Int) (by omega) (Int.le_refl _) (by rw [hz2];omega) (by omega)
 simpa [hz1,Value.cells] using h
theorem zeros_slM {u:World} {b size:Nat} (h:u.heap[b]?=some (.cells (madeCells #[.int .u64 0] size) 37 (0,0))) (h64:size<=1000000):SlAt u (some ⟨b,0,none⟩) (List.replicate size 0).length 1 (u64G (List.replicate size 0)):=by
 refine⟨by rw [List.length_replicate];unfold maxLen;omega,λj hj=>⟨b,0,rfl,blk_lt h,λf hf=>?_⟩⟩
 obtain rfl:f=0:=by omega
 rw [List.length_replicate] at hj
 rw [cell_blk h,madeCells_one]
 simp [u64G,u64V,List.getD_eq_getElem?_getD,List.getElem?_replicate,hj]
def mxCheck (n m:Int) (calls:List CallD) (np:Nat):Int:=if checkN n calls np≠0 then checkN n calls np else if m<1∨12<m then 10 else 0
def mxSize (m:Nat):Nat:=2^m - 1
theorem mx_lateAt (m:Nat) (hm1:0<m) (hm:m<=12) {calls:List CallD} {np n:Nat} (hck:checkN n calls np=0) (ws:List Nat) (l:List Int) (hl:l.length<=65536):∀ p s k,p<16->(picksD (maxS m) calls (play0 (maxS m) () ws calls) l).hands.getD p (none,0)=(some s,k)->LateAt (maxR m) (picksD (maxS m) calls (play0 (maxS m) () ws calls) l).obj (picksD (maxS m) calls (play0 (maxS m) () ws calls) l).wd p s:=by
 intro p s k hp hs
 obtain⟨_,b,c⟩:=mx_picks hm1 hck ws l
 have hh:=b.hand p s k hs
 match s,hh with
 | .rd x,_=>exact .inl ⟨rfl,λw Mut B T y h=>by obtain⟨rfl,_⟩:=h;exact rd_kind⟩
 | .wr x,⟨h1,h2,h3⟩=>
  refine .inr ⟨_,rfl,λw Mut B I N T y hw h=>?_⟩
  obtain⟨rfl,bm,tv,kv,rfl,h4,h5,h6,rfl⟩:=h
  refine⟨wr_kind,_,_,wr_late_m _,wr_late x hw h4 hp h2 hm (by have:=Nat.pow_le_pow_right (n:=2) (by decide) hm;omega) ⟨λa z hz=>by have:=b.tr a z hz;omega,λq=>by have:=b.inv q;omega⟩ (by omega)⟩
set_option maxHeartbeats 4000000 in
theorem maxPlay_any (X:Nat->Prop) (w:World) (n m:Int) (calls:List CallD) (picks:List Int) (ca pa:Option Addr) (cc pc:Nat) (hX:∀ b,X b->b<w.heap.size) (hc:CallsAt X w ca calls) (hp:PicksAt w pa picks) :
  Calls Try.prog 17 #[.int .i64 n,.int .i64 m,.slice ca calls.length cc,.slice pa picks.length pc] w λe w'=>PlayRet X w w' (mxCheck n m calls picks.length) (playD (maxS m.toNat) () (List.replicate (mxSize m.toNat) 0) calls picks) e:=by
 obtain⟨wa,hwa⟩:∃ wa,wa=w.alloc (.cells #[.slice none 0 0,.slice none 0 0,.int .i64 0,.int .i64 0,.int .i64 0,.int .i64 0,.int .i64 0,.int .i64 0,.int .i64 0] 32):=⟨_,rfl⟩
 have hga:Below w.heap.size w wa:=by rw [hwa];exact Gr.new _ _
 have hra:wa.heap[w.heap.size]?=some (.cells #[.slice none 0 0,.slice none 0 0,.int .i64 0,.int .i64 0,.int .i64 0,.int .i64 0,.int .i64 0,.int .i64 0,.int .i64 0] 32 (0,0)):=by rw [hwa];exact heap_alloc_new _ _
 have hsa:w.heap.size<wa.heap.size:=by rw [hwa];simp
 have C:=Lib.hid (check_any n calls picks.length ca pa cc pc wa (hc.sl.grown hga) hp.sl.1 (λx hx=>(hc.ok x hx).thread))
 have Hc:=Lib.hid hc;have Hp:=Lib.hid hp;have HX:=Lib.hid hX
 have Hwa:=Lib.hid hwa;have Hga:=Lib.hid hga;have Hra:=Lib.hid hra
 have hpl:=hp.sl.1
 unfold maxLen at hpl
 clear hc hp hX hwa hga hra
 obtain⟨ck,hck⟩:∃ ck,ck=checkN n calls picks.length:=⟨_,rfl⟩
 rw [<-hck] at C
 have Hck:=Lib.hid hck
 clear hck
 by_cases hc0:ck=0
 ·obtain⟨hn1,hn16⟩:=n_ok (hc0 ▸ Hck.out).symm
  obtain⟨sz,rfl⟩:∃ sz:Nat,n=(sz:Int):=⟨n.toNat,by omega⟩
  by_cases hkb:m<1∨12<m
  ·have her:mxCheck (sz:Int) m calls picks.length=10:=by unfold mxCheck;rw [<-Hck.out,if_neg (by simpa using hc0),if_pos hkb]
   rw [her]
   have Hz:=Lib.hid (show(10:Int)≠0 by decide)
   subst hc0
   clear her
   have hkx:m<1∨(¬ m<1/\12<m):=by omega
   rcases hkx with hk1|⟨hk1,hk2⟩
   ·clear hkb
    go_enter Try.func17,Try.ntmps17
    go_wp2_with fail
    rw [<-Hwa.out]
    refine C.out.mono ?_
    rintro e w1 ⟨rfl,hb1⟩
    have hr1:=(hb1.block _ (blk_lt Hra.out)).trans Hra.out
    have Hb1:=Lib.hid hb1;have Hr1:=Lib.hid hr1
    have g0:w1.cell? ⟨w.heap.size,0,none⟩=some (.slice none 0 0):=by rw [cell_blk hr1];rfl
    have gf0:w1.frozen? ⟨w.heap.size,0,none⟩=false:=frozen_blk hr1 0
    have g1:w1.cell? ⟨w.heap.size,1,none⟩=some (.slice none 0 0):=by rw [cell_blk hr1];rfl
    have gf1:w1.frozen? ⟨w.heap.size,1,none⟩=false:=frozen_blk hr1 1
    have g2:w1.cell? ⟨w.heap.size,2,none⟩=some (.int .i64 0):=by rw [cell_blk hr1];rfl
    have gf2:w1.frozen? ⟨w.heap.size,2,none⟩=false:=frozen_blk hr1 2
    have g3:w1.cell? ⟨w.heap.size,3,none⟩=some (.int .i64 0):=by rw [cell_blk hr1];rfl
    have gf3:w1.frozen? ⟨w.heap.size,3,none⟩=false:=frozen_blk hr1 3
    have g4:w1.cell? ⟨w.heap.size,4,none⟩=some (.int .i64 0):=by rw [cell_blk hr1];rfl
    have gf4:w1.frozen? ⟨w.heap.size,4,none⟩=false:=frozen_blk hr1 4
    have g5:w1.cell? ⟨w.heap.size,5,none⟩=some (.int .i64 0):=by rw [cell_blk hr1];rfl
    have gf5:w1.frozen? ⟨w.heap.size,5,none⟩=false:=frozen_blk hr1 5
    have g6:w1.cell? ⟨w.heap.size,6,none⟩=some (.int .i64 0):=by rw [cell_blk hr1];rfl
    have gf6:w1.frozen? ⟨w.heap.size,6,none⟩=false:=frozen_blk hr1 6
    have g7:w1.cell? ⟨w.heap.size,7,none⟩=some (.int .i64 0):=by rw [cell_blk hr1];rfl
    have gf7:w1.frozen? ⟨w.heap.size,7,none⟩=false:=frozen_blk hr1 7
    have g8:w1.cell? ⟨w.heap.size,8,none⟩=some (.int .i64 0):=by rw [cell_blk hr1];rfl
    have gf8:w1.frozen? ⟨w.heap.size,8,none⟩=false:=frozen_blk hr1 8
    clear hr1 hb1
    go_wp2
    obtain⟨w7,hw7⟩:∃ w7,w7=(((((((((w1.setCell ⟨w.heap.size,0,none⟩ (.slice none 0 0)).setCell ⟨w.heap.size,1,none⟩ (.slice none 0 0)).setCell ⟨w.heap.size,2,none⟩ (.int .i64 0)).setCell ⟨w.heap.size,3,none⟩ (.int .i64 0)).setCell ⟨w.heap.size,4,none⟩ (.int .i64 0)).setCell ⟨w.heap.size,5,none⟩ (.int .i64 0)).setCell ⟨w.heap.size,6,none⟩ (.int .i64 0)).setCell ⟨w.heap.size,7,none⟩ (.int .i64 0)).setCell ⟨w.heap.size,8,none⟩ (.int .i64 0)):=⟨_,rfl⟩
    rw [<-hw7]
    have hr7:w7.heap[w.heap.size]?=some (.cells #[.slice none 0 0,.slice none 0 0,.int .i64 0,.int .i64 0,.int .i64 0,.int .i64 0,.int .i64 0,.int .i64 0,.int .i64 0] 32 (0,0)):=by rw [hw7,(blk_set (blk_set (blk_set (blk_set (blk_set (blk_set (blk_set (blk_set (blk_set Hr1.out _ _) _ _) _ _) _ _) _ _) _ _) _ _) _ _) _ _)];rfl
    have hch7:Chg (λb=>b=w.heap.size) w1 w7:=by rw [hw7];exact((((((((((Chg.refl (λb=>b=w.heap.size) w1).setCell (by exact .inl rfl) _).setCell (by exact .inl rfl) _).setCell (by exact .inl rfl) _).setCell (by exact .inl rfl) _).setCell (by exact .inl rfl) _).setCell (by exact .inl rfl) _).setCell (by exact .inl rfl) _).setCell (by exact .inl rfl) _).setCell (by exact .inl rfl) _)
    clear hw7
    have hld:=rep_load w7 w.heap.size _ hr7 rfl
    refine bodyPost_ret (v:=.tuple #[.agg #[.slice none 0 0,.slice none 0 0,.int .i64 0,.int .i64 0,.int .i64 0,.int .i64 0,.int .i64 0,.int .i64 0,.int .i64 0],.int .i64 10]) (by simp [results,Try.results17 ,Sem.run_bind,Sem.run_pure,asAddr,hld]) rfl ?_
    have hall:Chg (λb=>w.heap.size<=b) w w7:=((Chg.of_below Hga.out).trans (Chg.of_below Hb1.out)).trans (hch7.mono (λb _ h=>by have h9:b=w.heap.size:=h;omega))
    exact⟨none,0,0,none,0,0,_,rfl,hall.below (λb h=>h) (Nat.le_refl _),.inl ⟨Hz.out,rfl,rfl,rfl,rfl,rfl,rfl,rfl⟩⟩
   ·clear hkb
    go_enter Try.func17,Try.ntmps17
    go_wp2_with fail
    rw [<-Hwa.out]
    refine C.out.mono ?_
    rintro e w1 ⟨rfl,hb1⟩
    have hr1:=(hb1.block _ (blk_lt Hra.out)).trans Hra.out
    have Hb1:=Lib.hid hb1;have Hr1:=Lib.hid hr1
    have g0:w1.cell? ⟨w.heap.size,0,none⟩=some (.slice none 0 0):=by rw [cell_blk hr1];rfl
    have gf0:w1.frozen? ⟨w.heap.size,0,none⟩=false:=frozen_blk hr1 0
    have g1:w1.cell? ⟨w.heap.size,1,none⟩=some (.slice none 0 0):=by rw [cell_blk hr1];rfl
    have gf1:w1.frozen? ⟨w.heap.size,1,none⟩=false:=frozen_blk hr1 1
    have g2:w1.cell? ⟨w.heap.size,2,none⟩=some (.int .i64 0):=by rw [cell_blk hr1];rfl
    have gf2:w1.frozen? ⟨w.heap.size,2,none⟩=false:=frozen_blk hr1 2
    have g3:w1.cell? ⟨w.heap.size,3,none⟩=some (.int .i64 0):=by rw [cell_blk hr1];rfl
    have gf3:w1.frozen? ⟨w.heap.size,3,none⟩=false:=frozen_blk hr1 3
    have g4:w1.cell? ⟨w.heap.size,4,none⟩=some (.int .i64 0):=by rw [cell_blk hr1];rfl
    have gf4:w1.frozen? ⟨w.heap.size,4,none⟩=false:=frozen_blk hr1 4
    have g5:w1.cell? ⟨w.heap.size,5,none⟩=some (.int .i64 0):=by rw [cell_blk hr1];rfl
    have gf5:w1.frozen? ⟨w.heap.size,5,none⟩=false:=frozen_blk hr1 5
    have g6:w1.cell? ⟨w.heap.size,6,none⟩=some (.int .i64 0):=by rw [cell_blk hr1];rfl
    have gf6:w1.frozen? ⟨w.heap.size,6,none⟩=false:=frozen_blk hr1 6
    have g7:w1.cell? ⟨w.heap.size,7,none⟩=some (.int .i64 0):=by rw [cell_blk hr1];rfl
    have gf7:w1.frozen? ⟨w.heap.size,7,none⟩=false:=frozen_blk hr1 7
    have g8:w1.cell? ⟨w.heap.size,8,none⟩=some (.int .i64 0):=by rw [cell_blk hr1];rfl
    have gf8:w1.frozen? ⟨w.heap.size,8,none⟩=false:=frozen_blk hr1 8
    clear hr1 hb1
    go_wp2
    obtain⟨w7,hw7⟩:∃ w7,w7=(((((((((w1.setCell ⟨w.heap.size,0,none⟩ (.slice none 0 0)).setCell ⟨w.heap.size,1,none⟩ (.slice none 0 0)).setCell ⟨w.heap.size,2,none⟩ (.int .i64 0)).setCell ⟨w.heap.size,3,none⟩ (.int .i64 0)).setCell ⟨w.heap.size,4,none⟩ (.int .i64 0)).setCell ⟨w.heap.size,5,none⟩ (.int .i64 0)).setCell ⟨w.heap.size,6,none⟩ (.int .i64 0)).setCell ⟨w.heap.size,7,none⟩ (.int .i64 0)).setCell ⟨w.heap.size,8,none⟩ (.int .i64 0)):=⟨_,rfl⟩
    rw [<-hw7]
    have hr7:w7.heap[w.heap.size]?=some (.cells #[.slice none 0 0,.slice none 0 0,.int .i64 0,.int .i64 0,.int .i64 0,.int .i64 0,.int .i64 0,.int .i64 0,.int .i64 0] 32 (0,0)):=by rw [hw7,(blk_set (blk_set (blk_set (blk_set (blk_set (blk_set (blk_set (blk_set (blk_set Hr1.out _ _) _ _) _ _) _ _) _ _) _ _) _ _) _ _) _ _)];rfl
    have hch7:Chg (λb=>b=w.heap.size) w1 w7:=by rw [hw7];exact((((((((((Chg.refl (λb=>b=w.heap.size) w1).setCell (by exact .inl rfl) _).setCell (by exact .inl rfl) _).setCell (by exact .inl rfl) _).setCell (by exact .inl rfl) _).setCell (by exact .inl rfl) _).setCell (by exact .inl rfl) _).setCell (by exact .inl rfl) _).setCell (by exact .inl rfl) _).setCell (by exact .inl rfl) _)
    clear hw7
    have hld:=rep_load w7 w.heap.size _ hr7 rfl
    refine bodyPost_ret (v:=.tuple #[.agg #[.slice none 0 0,.slice none 0 0,.int .i64 0,.int .i64 0,.int .i64 0,.int .i64 0,.int .i64 0,.int .i64 0,.int .i64 0],.int .i64 10]) (by simp [results,Try.results17 ,Sem.run_bind,Sem.run_pure,asAddr,hld]) rfl ?_
    have hall:Chg (λb=>w.heap.size<=b) w w7:=((Chg.of_below Hga.out).trans (Chg.of_below Hb1.out)).trans (hch7.mono (λb _ h=>by have h9:b=w.heap.size:=h;omega))
    exact⟨none,0,0,none,0,0,_,rfl,hall.below (λb h=>h) (Nat.le_refl _),.inl ⟨Hz.out,rfl,rfl,rfl,rfl,rfl,rfl,rfl⟩⟩
  ·obtain⟨kk,rfl⟩:∃ kk:Nat,m=(kk:Int):=⟨m.toNat,by omega⟩
   have hk1:0<kk:=by omega
   have hk12:kk<=12:=by omega
   have her:mxCheck (sz:Int) (kk:Int) calls picks.length=0:=by unfold mxCheck;rw [<-Hck.out,if_neg (by simpa using hc0),if_neg hkb]
   rw [her]
   simp only [Int.toNat_natCast]
   obtain⟨S,hS⟩:∃ S,S=mxSize kk:=⟨_,rfl⟩
   have hSl:S<=4096:=by rw [hS];unfold mxSize;have:=Nat.pow_le_pow_right (n:=2) (by decide) hk12;omega
   have hpl2:picks.length<=65536:=np_ok (hc0 ▸ Hck.out).symm
   have P:=Lib.hid (λ(w1:World) (hb1:Below wa.heap.size wa w1) (u:World) (bo bw:Nat) (hu:Below w1.heap.size w1 u) (h1:u.cell? ⟨bo,0,none⟩=some (.iface 62 (.agg #[.int .i64 0,.int .i64 (kk:Int)]))) (h2:u.heap[bw]?=some (.cells (madeCells #[.int .u64 0] S) 37 (0,0))) (hbo:w1.heap.size<=bo)=>
    (play_late (X:=λb=>X b∨b=w.heap.size) (R:=maxR kk) (max_ok kk hk12) (by show 1<=1000;omega) u () sz calls (List.replicate S 0) picks (.slice (some ⟨bo,0,none⟩) 1 1) (.slice ca calls.length cc) (.slice (some ⟨bw,0,none⟩) (List.replicate S 0).length S) pa pc
     ⟨⟨ca,cc,rfl,Hc.out.sl.grown (Gr.trans Hga.out (Gr.trans hb1 hu)),λhl b off e hx=>by
      rcases hx with hx|hx
      ·exact Hc.out.nx hl b off e hx
      ·obtain⟨b0,off0,e0,hb0⟩:=Hc.out.sl.lt hl
       rw [e0] at e;cases e;omega⟩,Hc.out.ok,⟨bo,0,1,rfl,h1,λhx=>by have:=hb1.size;rcases hx with hx|hx;have:=HX.out bo hx;omega;omega⟩,⟨_,S,rfl,zeros_slM h2 (by omega),λe=>by cases e⟩,by rw [List.length_replicate];omega,λx hx=>by rw [(List.mem_replicate.1 hx).2];omega,λb hb=>hb,λ_ _=>trivial,trivial,λb hx=>by have:=hu.size;have:=hb1.size;rcases hx with hx|hx;have:=HX.out b hx;omega;omega⟩ (Hp.out.sl.grown (Gr.trans Hga.out (Gr.trans hb1 hu))) Hp.out.ok (λhck0=>mx_safe hk1 calls picks hck0 (List.replicate S 0)) (λhck0=>mx_lateAt kk hk1 hk12 hck0 (List.replicate S 0) picks hpl2)).mono (λe w' h=>(⟨PlayTo.ret h,Gr.trans hb1 hu⟩:PlayRet (λb=>X b∨b=w.heap.size) u w' (checkN sz calls picks.length) (playD (maxS kk) () (List.replicate S 0) calls picks) e/\Below wa.heap.size wa u)))
   have NW:=Lib.hid (max_new kk)
   have SZ:=Lib.hid (λu=>(by have h9:=max_size kk hk12 u;rw [show 2^kk - 1=S from hS.symm] at h9;exact h9:Calls Try.prog 38 #[.int .i64 (kk:Int)] u λe w'=>e=.returned (.int .i64 (S:Int))/\u=w'))
   have hmk:=make_sizeM S (S:Int) rfl (by omega)
   obtain⟨rr,hrr⟩:∃ rr,rr=playD (maxS kk) () (List.replicate S 0) calls picks:=⟨_,rfl⟩
   rw [<-hS]
   rw [<-Hck.out,hc0,<-hrr] at P
   rw [<-hrr]
   simp only [List.length_replicate] at P
   have l1:¬ (kk:Int)<1:=by omega
   have l2:¬ (12:Int)<(kk:Int):=by omega
   subst hc0
   clear hrr her hS hkb hk12
   go_enter Try.func17,Try.ntmps17
   go_wp2_with fail
   rw [<-Hwa.out]
   refine C.out.mono ?_
   rintro e w1 ⟨rfl,hb1⟩
   replace P:=Lib.hid (P.out w1 hb1)
   have Hb1:=Lib.hid hb1
   have hb19:=hb1.size
   clear hb1
   go_wp2_with (first|(go_at_call 37;refine(NW.out _).mono ?_;rintro e w2 ⟨rfl,hb2⟩)|(go_at_call 38;refine(SZ.out _).mono ?_;rintro e w3 ⟨rfl,rfl⟩)|(go_at_call 36;refine(P.out _ w2.heap.size (w2.heap.size+1) (Gr.alloc (Gr.alloc hb2 _) _) (by rw [World.cell?_alloc_lt _ _ _ (by simp),cell_new];rfl) (by have h9:=heap_alloc_new (w2.alloc (.cells #[.iface 62 (.agg #[.int .i64 0,.int .i64 (kk:Int)])] 172)) (.cells (madeCells #[.int .u64 0] S) 37 (0,0));simp only [World.size_alloc] at h9;exact h9) hb2.size).mono ?_;rintro e w4 ⟨⟨ea,en,ec,va,vn,vc,rp,rfl,hrest⟩,hu⟩;have hr4:=(hrest.1.block w.heap.size (by have:=hu.size;omega)).trans ((hu.block w.heap.size (by omega)).trans Hra.out);obtain⟨cs,w7,hcs,hsz,hst,hbk7,hch7⟩:=rep_store w4 w.heap.size (.slice ea en ec) (.slice va vn vc) rp hr4 rfl rfl;rw [hcs];have Hcs:=Lib.hid hcs;have Hbk7:=Lib.hid hbk7;have Hch7:=Lib.hid hch7;have Hrest:=Lib.hid hrest;have Hu:=Lib.hid hu;clear hr4 hrest hu hcs hbk7 hch7 hb2))
   have hld:=rep_load w7 w.heap.size cs Hbk7.out hsz
   refine bodyPost_ret (v:=.tuple #[.agg cs,.int .i64 0]) (by simp [results,Try.results17 ,Sem.run_bind,Sem.run_pure,asAddr,hld]) rfl ?_
   refine⟨ea,en,ec,va,vn,vc,rp,by rw [Hcs.out],PlayRest.chg Hrest.out Hch7.out (λb hb=>?_) (Gr.trans Hga.out Hu.out) (λb hb=>.inl hb)⟩
   have hb':b=w.heap.size:=hb
   exact⟨.inr hb',by omega,by have:=Hu.out.size;omega⟩
 ·have her:mxCheck n m calls picks.length=ck:=by unfold mxCheck;rw [<-Hck.out,if_pos (by simpa using hc0)]
  rw [her]
  have Her0:=Lib.hid hc0
  clear her
  go_enter Try.func17,Try.ntmps17
  go_wp2_with fail
  rw [<-Hwa.out]
  refine C.out.mono ?_
  rintro e w1 ⟨rfl,hb1⟩
  have hr1:=(hb1.block _ (blk_lt Hra.out)).trans Hra.out
  have Hb1:=Lib.hid hb1;have Hr1:=Lib.hid hr1
  have g0:w1.cell? ⟨w.heap.size,0,none⟩=some (.slice none 0 0):=by rw [cell_blk hr1];rfl
  have gf0:w1.frozen? ⟨w.heap.size,0,none⟩=false:=frozen_blk hr1 0
  have g1:w1.cell? ⟨w.heap.size,1,none⟩=some (.slice none 0 0):=by rw [cell_blk hr1];rfl
  have gf1:w1.frozen? ⟨w.heap.size,1,none⟩=false:=frozen_blk hr1 1
  have g2:w1.cell? ⟨w.heap.size,2,none⟩=some (.int .i64 0):=by rw [cell_blk hr1];rfl
  have gf2:w1.frozen? ⟨w.heap.size,2,none⟩=false:=frozen_blk hr1 2
  have g3:w1.cell? ⟨w.heap.size,3,none⟩=some (.int .i64 0):=by rw [cell_blk hr1];rfl
  have gf3:w1.frozen? ⟨w.heap.size,3,none⟩=false:=frozen_blk hr1 3
  have g4:w1.cell? ⟨w.heap.size,4,none⟩=some (.int .i64 0):=by rw [cell_blk hr1];rfl
  have gf4:w1.frozen? ⟨w.heap.size,4,none⟩=false:=frozen_blk hr1 4
  have g5:w1.cell? ⟨w.heap.size,5,none⟩=some (.int .i64 0):=by rw [cell_blk hr1];rfl
  have gf5:w1.frozen? ⟨w.heap.size,5,none⟩=false:=frozen_blk hr1 5
  have g6:w1.cell? ⟨w.heap.size,6,none⟩=some (.int .i64 0):=by rw [cell_blk hr1];rfl
  have gf6:w1.frozen? ⟨w.heap.size,6,none⟩=false:=frozen_blk hr1 6
  have g7:w1.cell? ⟨w.heap.size,7,none⟩=some (.int .i64 0):=by rw [cell_blk hr1];rfl
  have gf7:w1.frozen? ⟨w.heap.size,7,none⟩=false:=frozen_blk hr1 7
  have g8:w1.cell? ⟨w.heap.size,8,none⟩=some (.int .i64 0):=by rw [cell_blk hr1];rfl
  have gf8:w1.frozen? ⟨w.heap.size,8,none⟩=false:=frozen_blk hr1 8
  clear hr1 hb1
  go_wp2
  obtain⟨w7,hw7⟩:∃ w7,w7=(((((((((w1.setCell ⟨w.heap.size,0,none⟩ (.slice none 0 0)).setCell ⟨w.heap.size,1,none⟩ (.slice none 0 0)).setCell ⟨w.heap.size,2,none⟩ (.int .i64 0)).setCell ⟨w.heap.size,3,none⟩ (.int .i64 0)).setCell ⟨w.heap.size,4,none⟩ (.int .i64 0)).setCell ⟨w.heap.size,5,none⟩ (.int .i64 0)).setCell ⟨w.heap.size,6,none⟩ (.int .i64 0)).setCell ⟨w.heap.size,7,none⟩ (.int .i64 0)).setCell ⟨w.heap.size,8,none⟩ (.int .i64 0)):=⟨_,rfl⟩
  rw [<-hw7]
  have hr7:w7.heap[w.heap.size]?=some (.cells #[.slice none 0 0,.slice none 0 0,.int .i64 0,.int .i64 0,.int .i64 0,.int .i64 0,.int .i64 0,.int .i64 0,.int .i64 0] 32 (0,0)):=by rw [hw7,(blk_set (blk_set (blk_set (blk_set (blk_set (blk_set (blk_set (blk_set (blk_set Hr1.out _ _) _ _) _ _) _ _) _ _) _ _) _ _) _ _) _ _)];rfl
  have hch7:Chg (λb=>b=w.heap.size) w1 w7:=by rw [hw7];exact((((((((((Chg.refl (λb=>b=w.heap.size) w1).setCell (by exact .inl rfl) _).setCell (by exact .inl rfl) _).setCell (by exact .inl rfl) _).setCell (by exact .inl rfl) _).setCell (by exact .inl rfl) _).setCell (by exact .inl rfl) _).setCell (by exact .inl rfl) _).setCell (by exact .inl rfl) _).setCell (by exact .inl rfl) _)
  clear hw7
  have hld:=rep_load w7 w.heap.size _ hr7 rfl
  refine bodyPost_ret (v:=.tuple #[.agg #[.slice none 0 0,.slice none 0 0,.int .i64 0,.int .i64 0,.int .i64 0,.int .i64 0,.int .i64 0,.int .i64 0,.int .i64 0],.int .i64 ck]) (by simp [results,Try.results17 ,Sem.run_bind,Sem.run_pure,asAddr,hld]) rfl ?_
  have hall:Chg (λb=>w.heap.size<=b) w w7:=((Chg.of_below Hga.out).trans (Chg.of_below Hb1.out)).trans (hch7.mono (λb _ h=>by have h9:b=w.heap.size:=h;omega))
  exact⟨none,0,0,none,0,0,_,rfl,hall.below (λb h=>h) (Nat.le_refl _),.inl ⟨Her0.out,rfl,rfl,rfl,rfl,rfl,rfl,rfl⟩⟩
end
section

/- Layer 10: a thread that counts, and another one that reads. -/
open Go.RowKit
def oneCalls10:List CallD:=[⟨0,0,0,2,0,0⟩,⟨1,0,1,0,0,0⟩]
theorem one_rep10:playD (maxS 2) () [0,0,0] oneCalls10 [0,0,1,1]=⟨[⟨0,1,2,2,⟨0,0,[]⟩,[4,2]⟩,⟨1,3,4,2,⟨0,2,[]⟩,[8]⟩],[1,0,0],⟨3,1,0,0,0⟩,4,0⟩:=by rfl
theorem one_check10:mxCheck 2 2 oneCalls10 4=0:=by rfl
set_option maxHeartbeats 4000000 in
theorem max_second (w:World):Calls Try.prog 16 #[] w λe w'=>e=.returned (.bool true)/\Below w.heap.size w w':=by
 obtain⟨wa,hwa⟩:∃ wa,wa=(w.alloc (.cells #[.int .i64 0,.int .i64 0,.int .i64 0,.int .u64 2,.int .u64 0,.int .u64 0,.int .i64 1,.int .i64 0,.int .i64 1,.int .u64 0,.int .u64 0,.int .u64 0] 43)).alloc (.cells #[.int .i64 0,.int .i64 0,.int .i64 1,.int .i64 1] 3):=⟨_,rfl⟩
 have hga:Below w.heap.size w wa:=by rw [hwa];exact Gr.alloc (Gr.new _ _) _
 have h1:wa.heap[w.heap.size]?=some (.cells (oneCalls10.flatMap callL).toArray 43 (0,0)):=by rw [hwa,Below.heap_alloc _ _ _ (by simp),heap_alloc_new];rfl
 have h2:wa.heap[w.heap.size+1]?=some (.cells (([0,0,1,1]:List Int).map (Value.int .i64)).toArray 3 (0,0)):=by
  rw [hwa]
  have:=heap_alloc_new (w.alloc (.cells #[.int .i64 0,.int .i64 0,.int .i64 0,.int .u64 2,.int .u64 0,.int .u64 0,.int .i64 1,.int .i64 0,.int .i64 1,.int .u64 0,.int .u64 0,.int .u64 0] 43)) (.cells #[.int .i64 0,.int .i64 0,.int .i64 1,.int .i64 1] 3 (0,0))
  simp only [World.size_alloc] at this
  exact this
 have P:=maxPlay_any noB wa 2 2 oneCalls10 [0,0,1,1] (some ⟨w.heap.size,0,none⟩) (some ⟨w.heap.size+1,0,none⟩) 2 4 (λb hb=>hb.elim) ⟨calls_block h1 (by decide),(by
   intro x hx
   simp only [oneCalls10,List.mem_cons,List.not_mem_nil,or_false] at hx
   rcases hx with rfl|rfl<;>exact callOk_small (by decide) (by decide) (by decide) (by decide) (by decide) (by decide) (by decide)),λ_ _ _ _ h=>h⟩ ⟨ints_block h2 (by decide),by intro x hx;simp only [List.mem_cons,List.not_mem_nil,or_false] at hx;rcases hx with rfl|rfl|rfl|rfl<;>rfl⟩
 rw [show([0,0,1,1]:List Int).length=4 from rfl,one_check10,show(2:Int).toNat=2 from rfl,show List.replicate (mxSize 2) 0=[0,0,0] from rfl,one_rep10,show oneCalls10.length=2 from rfl] at P
 have HP:=Lib.hid P;have Hwa:=Lib.hid hwa;have Hga:=Lib.hid hga
 clear P h1 h2 hwa hga
 go_enter Try.func16,Try.ntmps16
 go_wp2_with fail
 rw [<-Hwa.out]
 refine HP.out.mono ?_
 rintro e w1 ⟨ea,en,ec,va,vn,vc,rp,rfl,hb,hr⟩
 rcases hr with⟨h0,_⟩|⟨_,hrp,hen,hvn,ers,hrep⟩
 ·exact absurd rfl h0
 obtain⟨g,rfl,hg,hev⟩:=hrep.event hen (by rw [hen];decide)
 obtain⟨q,rfl,hq,hwd⟩:=hrep.word hvn (by rw [hvn];decide)
 have hen2:en=2:=hen
 have hvn2:vn=3:=hvn
 subst hen2 hvn2 hrp
 have c3:w1.cell? ⟨g,3,none⟩=some (.int .i64 2):=hev 0 3 (by omega) (by omega)
 have c13:w1.cell? ⟨g,13,none⟩=some (.int .u64 2):=hev 1 5 (by omega) (by omega)
 have d0:w1.cell? ⟨q,0,none⟩=some (.int .u64 1):=hwd 0 (by omega)
 have d2:w1.cell? ⟨q,2,none⟩=some (.int .u64 0):=hwd 2 (by omega)
 have Hb:=Lib.hid hb
 clear hrep hev hwd hb hen hvn
 unfold repV
 go_wp2
 go_ret
 exact⟨rfl,Gr.trans Hga.out (Gr.trans Hb.out (Gr.new _ _))⟩
end
end Go.Proofs.Ytlanekkbciffcaa
