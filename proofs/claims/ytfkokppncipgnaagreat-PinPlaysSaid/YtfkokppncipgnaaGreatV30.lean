/- A reference's play, whatever its object is: why calls are not played; and roundelayplain.Play. -/
import Derived.Test.YtfkokppncipgnaaGreatV29
import Derived.Test.YtfkokppncipgnaaGreatV20
import Derived.Test.YtfkokppncipgnaaGreatV02
import Derived.Test.YtfkokppncipgnaaGreatV15
import Derived.Deep.DeepCutAuto
import Derived.Test.YtfkokppncipgnaaGreatV05
import Derived.BigQuiet
import Derived.Deep.Cut
set_option maxRecDepth 100000
set_option linter.unusedVariables false
set_option linter.unusedSimpArgs false
set_option linter.unnecessarySimpa false
namespace Go.Proofs.YtfkokppncipgnaaGreat
section
open Go.RowKit
def RefAny (X:Nat->Prop) (w w':World) (er:Int) (r:RepD) (two:Bool) (e:Ending):Prop:=
  Below w.heap.size w w'/\∃(ea:Option Addr) (en ec:Nat) (va:Option Addr) (vn vc:Nat) (rp:RepD) (lv:Value),e=.returned (.tuple (if two then #[repV (.slice ea en ec) (.slice va vn vc) rp,.int .i64 er] else #[repV (.slice ea en ec) (.slice va vn vc) rp,lv,.int .i64 er]))/\
    ((er≠0/\ea=none/\en=0/\ec=0/\va=none/\vn=0/\vc=0/\rp=⟨[],[],c0,0,0⟩)∨
     (er=0/\rp=r/\en=r.evs.length/\vn=r.words.length/\∃ ers,RepAt X w.heap.size w' (.slice ea en ec) (.slice none 0 0) ers { r with words:=[] }/\SlAt w' va vn 1 (u64G r.words)/\(0<r.words.length->∀ b off,va=some ⟨b,off,none⟩->w.heap.size<=b)))
theorem RefRet.any {X:Nat->Prop} {w w':World} {rp:RepD} {e:Ending} (h:RefRet X w w' rp e):RefAny X w w' 0 rp false e:=by
  obtain⟨hb,ea,ec,va,vc,lv,ers,rfl,h1,h2,h3⟩:=h
  exact⟨hb,ea,_,ec,va,_,vc,rp,lv,rfl,.inr ⟨rfl,rfl,rfl,rfl,ers,h1,h2,h3⟩⟩
set_option maxHeartbeats 4000000 in
theorem rlog_wrong (X:Nat->Prop) (n:Int) (calls:List CallD) (picks:List Int) (ca pa:Option Addr) (cc pc:Nat) (sv:Value) (rp:RepD) (w:World) (hck:checkN n calls picks.length≠0) (hc:CallsAt noB w ca calls) (hp:PicksAt w pa picks) :
    Calls Tryz.prog 22 #[.int .i64 n,sv,.slice ca calls.length cc,.slice pa picks.length pc] w λe w'=>RefAny X w w' (checkN n calls picks.length) rp false e:=by
  have W:=rcheck_any n calls picks.length ca pa cc pc (w.alloc (.cells #[.slice none 0 0,.slice none 0 0,.int .i64 0,.int .i64 0,.int .i64 0,.int .i64 0,.int .i64 0,.int .i64 0,.int .i64 0] 32)) (hc.grown (Gr.new _ _)).sl hp.sl.1
  obtain⟨er,her⟩:∃ er,er=checkN n calls picks.length:=⟨_,rfl⟩
  rw [<-her] at W hck ⊢
  have hn0:¬ er=0:=hck
  have HW:=Lib.hid W;have HN:=Lib.hid hck
  clear W hc hp her hck
  go_enter Tryz.func22,Tryz.ntmps22
  go_wp2_with fail
  refine HW.out.mono ?_
  rintro e w1 ⟨rfl,hb1⟩
  have Hb1:=Lib.hid hb1
  have hr1:=(hb1.block w.heap.size (by simp)).trans (heap_alloc_new w _)
  clear hb1
  · have Hr1:=Lib.hid hr1
    have g0:w1.cell? ⟨w.heap.size,0,none⟩=some (.slice none 0 0):=by rw [cell_blk hr1];rfl
    have gf0:w1.frozen? ⟨w.heap.size,0,none⟩=false:=frozen_blk hr1 0
    have g1:w1.cell? ⟨w.heap.size,1,none⟩=some (.slice none 0 0):=by rw [cell_blk hr1];rfl
    have gf1:w1.frozen? ⟨w.heap.size,1,none⟩=false:=frozen_blk hr1 1
    have g2:w1.cell? ⟨w.heap.size,2,none⟩=some (.int .i64 0):=by rw [cell_blk hr1];rfl
    have gf2:w1.frozen? ⟨w.heap.size,2,none⟩=false:=frozen_blk hr1 2
    have g3:w1.cell? ⟨w.heap.size,3,none⟩=some (.int .i64 0):=by rw [cell_blk hr1];rfl
    have gf3:w1.frozen? ⟨w.heap.size,3,none⟩=false:=frozen_blk hr1 3
    have g4:w1.cell? ⟨w.heap.size,4,none⟩=some (.int .i64 0):=by rw [cell_blk hr1];rfl
    have gf4:w1.frozen? ⟨w.heap.size,4,none⟩=false:=frozen_blk hr1 4
    have g5:w1.cell? ⟨w.heap.size,5,none⟩=some (.int .i64 0):=by rw [cell_blk hr1];rfl
    have gf5:w1.frozen? ⟨w.heap.size,5,none⟩=false:=frozen_blk hr1 5
    have g6:w1.cell? ⟨w.heap.size,6,none⟩=some (.int .i64 0):=by rw [cell_blk hr1];rfl
    have gf6:w1.frozen? ⟨w.heap.size,6,none⟩=false:=frozen_blk hr1 6
    have g7:w1.cell? ⟨w.heap.size,7,none⟩=some (.int .i64 0):=by rw [cell_blk hr1];rfl
    have gf7:w1.frozen? ⟨w.heap.size,7,none⟩=false:=frozen_blk hr1 7
    have g8:w1.cell? ⟨w.heap.size,8,none⟩=some (.int .i64 0):=by rw [cell_blk hr1];rfl
    have gf8:w1.frozen? ⟨w.heap.size,8,none⟩=false:=frozen_blk hr1 8
    clear hr1
    go_wp2
    obtain⟨w7,hw7⟩:∃ w7,w7=(((((((((w1.setCell ⟨w.heap.size,0,none⟩ (.slice none 0 0)).setCell ⟨w.heap.size,1,none⟩ (.slice none 0 0)).setCell ⟨w.heap.size,2,none⟩ (.int .i64 0)).setCell ⟨w.heap.size,3,none⟩ (.int .i64 0)).setCell ⟨w.heap.size,4,none⟩ (.int .i64 0)).setCell ⟨w.heap.size,5,none⟩ (.int .i64 0)).setCell ⟨w.heap.size,6,none⟩ (.int .i64 0)).setCell ⟨w.heap.size,7,none⟩ (.int .i64 0)).setCell ⟨w.heap.size,8,none⟩ (.int .i64 0)):=⟨_,rfl⟩
    rw [<-hw7]
    have hr7:w7.heap[w.heap.size]?=some (.cells #[.slice none 0 0,.slice none 0 0,.int .i64 0,.int .i64 0,.int .i64 0,.int .i64 0,.int .i64 0,.int .i64 0,.int .i64 0] 32 (0,0)):=by rw [hw7,(blk_set (blk_set (blk_set (blk_set (blk_set (blk_set (blk_set (blk_set (blk_set Hr1.out _ _) _ _) _ _) _ _) _ _) _ _) _ _) _ _) _ _)];rfl
    have hch7:Chg (λb=>b=w.heap.size) w1 w7:=by rw [hw7];exact(((((((((Chg.refl (λb=>b=w.heap.size) w1).setCell (by exact .inl rfl) _).setCell (by exact .inl rfl) _).setCell (by exact .inl rfl) _).setCell (by exact .inl rfl) _).setCell (by exact .inl rfl) _).setCell (by exact .inl rfl) _).setCell (by exact .inl rfl) _).setCell (by exact .inl rfl) _).setCell (by exact .inl rfl) _
    clear hw7
    have hld:=rep_load w7 w.heap.size _ hr7 rfl
    refine bodyPost_ret (v:=.tuple #[.agg #[.slice none 0 0,.slice none 0 0,.int .i64 0,.int .i64 0,.int .i64 0,.int .i64 0,.int .i64 0,.int .i64 0,.int .i64 0],.slice none 0 0,.int .i64 er]) (by simp [results,Tryz.results22 ,Sem.run_bind,Sem.run_pure,asAddr,hld]) rfl ?_
    have hall:Chg (λb=>w.heap.size<=b) w w7:=((Chg.of_below (Gr.new w (.cells #[.slice none 0 0,.slice none 0 0,.int .i64 0,.int .i64 0,.int .i64 0,.int .i64 0,.int .i64 0,.int .i64 0,.int .i64 0] 32))).trans (Chg.of_below Hb1.out)).trans (hch7.mono (λb _ h=>by have h9:b=w.heap.size:=h;omega))
    exact⟨hall.below (λb h=>h) (Nat.le_refl _),none,0,0,none,0,0,⟨[],[],c0,0,0⟩,.slice none 0 0,rfl,.inl ⟨HN.out,rfl,rfl,rfl,rfl,rfl,rfl,rfl⟩⟩
set_option maxHeartbeats 4000000 in
theorem rlog_bad (X:Nat->Prop) (n kd P Q:Int) (calls:List CallD) (picks:List Int) (ca pa:Option Addr) (cc pc bS:Nat) (rp:RepD) (w:World) (hck:checkN n calls picks.length=0) (hS:SpecAt w bS kd P Q) (hc:CallsAt noB w ca calls) (hp:PicksAt w pa picks) (SC:∀ u:World,Calls Tryz.prog 55 #[.int .i64 n,.agg #[.int .i64 kd,.int .i64 P,.int .i64 Q]] u λe w'=>e=.returned (.int .i64 (-1))/\Below u.heap.size u w') :
    Calls Tryz.prog 22 #[.int .i64 n,.slice (some ⟨bS,0,none⟩) 1 1,.slice ca calls.length cc,.slice pa picks.length pc] w λe w'=>RefAny X w w' 10 rp false e:=by
  have W:=rcheck_any n calls picks.length ca pa cc pc (w.alloc (.cells #[.slice none 0 0,.slice none 0 0,.int .i64 0,.int .i64 0,.int .i64 0,.int .i64 0,.int .i64 0,.int .i64 0,.int .i64 0] 32)) (hc.grown (Gr.new _ _)).sl hp.sl.1
  rw [hck] at W
  have HW:=Lib.hid W
  have HB:=Lib.hid (λ(u:World) (h:Below w.heap.size w u)=>bases_bad n kd P Q bS u (hS.grown h) SC)
  clear W hc hp hck hS SC
  go_enter Tryz.func22,Tryz.ntmps22
  go_wp2_with fail
  refine HW.out.mono ?_
  rintro e w1 ⟨rfl,hb1⟩
  have Hb1:=Lib.hid hb1
  have hr0:=(hb1.block w.heap.size (by simp)).trans (heap_alloc_new w _)
  have HR0:=Lib.hid hr0
  clear hb1 hr0
  go_wp2_with fail
  refine(HB.out _ (Gr.trans (Gr.new _ _) Hb1.out)).mono ?_
  rintro e w2 ⟨rfl,hb2⟩
  have hr1:=(hb2.block w.heap.size (blk_lt HR0.out)).trans HR0.out
  have Hb2:=Lib.hid (Gr.trans Hb1.out hb2)
  clear hb2
  · have Hr1:=Lib.hid hr1
    have g0:w2.cell? ⟨w.heap.size,0,none⟩=some (.slice none 0 0):=by rw [cell_blk hr1];rfl
    have gf0:w2.frozen? ⟨w.heap.size,0,none⟩=false:=frozen_blk hr1 0
    have g1:w2.cell? ⟨w.heap.size,1,none⟩=some (.slice none 0 0):=by rw [cell_blk hr1];rfl
    have gf1:w2.frozen? ⟨w.heap.size,1,none⟩=false:=frozen_blk hr1 1
    have g2:w2.cell? ⟨w.heap.size,2,none⟩=some (.int .i64 0):=by rw [cell_blk hr1];rfl
    have gf2:w2.frozen? ⟨w.heap.size,2,none⟩=false:=frozen_blk hr1 2
    have g3:w2.cell? ⟨w.heap.size,3,none⟩=some (.int .i64 0):=by rw [cell_blk hr1];rfl
    have gf3:w2.frozen? ⟨w.heap.size,3,none⟩=false:=frozen_blk hr1 3
    have g4:w2.cell? ⟨w.heap.size,4,none⟩=some (.int .i64 0):=by rw [cell_blk hr1];rfl
    have gf4:w2.frozen? ⟨w.heap.size,4,none⟩=false:=frozen_blk hr1 4
    have g5:w2.cell? ⟨w.heap.size,5,none⟩=some (.int .i64 0):=by rw [cell_blk hr1];rfl
    have gf5:w2.frozen? ⟨w.heap.size,5,none⟩=false:=frozen_blk hr1 5
    have g6:w2.cell? ⟨w.heap.size,6,none⟩=some (.int .i64 0):=by rw [cell_blk hr1];rfl
    have gf6:w2.frozen? ⟨w.heap.size,6,none⟩=false:=frozen_blk hr1 6
    have g7:w2.cell? ⟨w.heap.size,7,none⟩=some (.int .i64 0):=by rw [cell_blk hr1];rfl
    have gf7:w2.frozen? ⟨w.heap.size,7,none⟩=false:=frozen_blk hr1 7
    have g8:w2.cell? ⟨w.heap.size,8,none⟩=some (.int .i64 0):=by rw [cell_blk hr1];rfl
    have gf8:w2.frozen? ⟨w.heap.size,8,none⟩=false:=frozen_blk hr1 8
    clear hr1
    go_wp2
    obtain⟨w7,hw7⟩:∃ w7,w7=(((((((((w2.setCell ⟨w.heap.size,0,none⟩ (.slice none 0 0)).setCell ⟨w.heap.size,1,none⟩ (.slice none 0 0)).setCell ⟨w.heap.size,2,none⟩ (.int .i64 0)).setCell ⟨w.heap.size,3,none⟩ (.int .i64 0)).setCell ⟨w.heap.size,4,none⟩ (.int .i64 0)).setCell ⟨w.heap.size,5,none⟩ (.int .i64 0)).setCell ⟨w.heap.size,6,none⟩ (.int .i64 0)).setCell ⟨w.heap.size,7,none⟩ (.int .i64 0)).setCell ⟨w.heap.size,8,none⟩ (.int .i64 0)):=⟨_,rfl⟩
    rw [<-hw7]
    have hr7:w7.heap[w.heap.size]?=some (.cells #[.slice none 0 0,.slice none 0 0,.int .i64 0,.int .i64 0,.int .i64 0,.int .i64 0,.int .i64 0,.int .i64 0,.int .i64 0] 32 (0,0)):=by rw [hw7,(blk_set (blk_set (blk_set (blk_set (blk_set (blk_set (blk_set (blk_set (blk_set Hr1.out _ _) _ _) _ _) _ _) _ _) _ _) _ _) _ _) _ _)];rfl
    have hch7:Chg (λb=>b=w.heap.size) w2 w7:=by rw [hw7];exact(((((((((Chg.refl (λb=>b=w.heap.size) w2).setCell (by exact .inl rfl) _).setCell (by exact .inl rfl) _).setCell (by exact .inl rfl) _).setCell (by exact .inl rfl) _).setCell (by exact .inl rfl) _).setCell (by exact .inl rfl) _).setCell (by exact .inl rfl) _).setCell (by exact .inl rfl) _).setCell (by exact .inl rfl) _
    clear hw7
    have hld:=rep_load w7 w.heap.size _ hr7 rfl
    refine bodyPost_ret (v:=.tuple #[.agg #[.slice none 0 0,.slice none 0 0,.int .i64 0,.int .i64 0,.int .i64 0,.int .i64 0,.int .i64 0,.int .i64 0,.int .i64 0],.slice none 0 0,.int .i64 10]) (by simp [results,Tryz.results22 ,Sem.run_bind,Sem.run_pure,asAddr,hld]) rfl ?_
    have hall:Chg (λb=>w.heap.size<=b) w w7:=((Chg.of_below (Gr.new w (.cells #[.slice none 0 0,.slice none 0 0,.int .i64 0,.int .i64 0,.int .i64 0,.int .i64 0,.int .i64 0,.int .i64 0,.int .i64 0] 32))).trans (Chg.of_below Hb2.out)).trans (hch7.mono (λb _ h=>by have h9:b=w.heap.size:=h;omega))
    exact⟨hall.below (λb h=>h) (Nat.le_refl _),none,0,0,none,0,0,⟨[],[],c0,0,0⟩,.slice none 0 0,rfl,.inl ⟨by decide,rfl,rfl,rfl,rfl,rfl,rfl,rfl⟩⟩
theorem rplay_of (X:Nat->Prop) (n:Int) (er:Int) (r:RepD) (sv cv pv:Value) (w:World) (LG:∀ u:World,Below w.heap.size w u->w.heap.size<u.heap.size->Calls Tryz.prog 22 #[.int .i64 n,sv,cv,pv] u λe w'=>RefAny (λb=>X b∨b=w.heap.size) u w' er r false e) :
    Calls Tryz.prog 10 #[.int .i64 n,sv,cv,pv] w λe w'=>RefAny X w w' er r true e:=by
  have HL:=Lib.hid (LG (w.alloc (.cells #[.slice none 0 0,.slice none 0 0,.int .i64 0,.int .i64 0,.int .i64 0,.int .i64 0,.int .i64 0,.int .i64 0,.int .i64 0] 32)) (Gr.new _ _) (by simp))
  clear LG
  go_enter Tryz.func10,Tryz.ntmps10
  go_wp2_with fail
  refine HL.out.mono ?_
  rintro e w4 ⟨hb4,ea,en,ec,va,vn,vc,rp,lv,rfl,hres⟩
  obtain⟨cs,w7,hcs,hsz,hst,hbk7,hch7⟩:=rep_store (w4.alloc (.cells #[.slice none 0 0,.slice none 0 0,.int .i64 0,.int .i64 0,.int .i64 0,.int .i64 0,.int .i64 0,.int .i64 0,.int .i64 0] 32)) w4.heap.size (.slice ea en ec) (.slice va vn vc) rp (heap_alloc_new _ _) rfl rfl
  have hr4:w4.heap[w.heap.size]?=_:=(hb4.block w.heap.size (by simp)).trans (heap_alloc_new w _)
  have h4l:=blk_lt hr4
  have hr7:w7.heap[w.heap.size]?=_:=(hch7.block w.heap.size (by simp;omega) (by omega)).trans ((Below.heap_alloc w4 _ _ h4l).trans hr4)
  obtain⟨cs2,w8,hcs2,hsz2,hst2,hbk8,hch8⟩:=rep_store w7 w.heap.size (.slice ea en ec) (.slice va vn vc) rp hr7 rfl rfl
  obtain rfl:cs2=cs:=by rw [hcs] at hcs2;injection hcs2 with h;exact h.symm
  have hrange:w7.rangeAt w4.heap.size 0 cs2.toList:=λj v hv=>by rw [Nat.zero_add,cell_blk hbk7];simpa using hv
  have hinfo:(Tryz.prog.info? 32).map (·.size)=some cs2.toList.length:=by rw [rep_info];simp [hsz]
  have Hrange:=Lib.hid hrange;have Hinfo:=Lib.hid hinfo
  clear hrange hinfo
  rw [hcs]
  simp only [Bool.false_eq_true,if_false]
  have HB4:=Lib.hid hb4;have HRes:=Lib.hid hres;have HC7:=Lib.hid hch7;have HC8:=Lib.hid hch8;have HK8:=Lib.hid hbk8;have HCS:=Lib.hid hcs
  clear hb4 hres hch7 hch8 hbk7 hbk8 hcs hcs2 hr4 hr7
  go_wp2_with (refine wpList_load_mid rfl 32 _ rfl w4.heap.size 0 rfl cs2.toList _ Hrange.out Tryz.underlying32 rfl Hinfo.out ?_;rw [Array.toArray_toList])
  have hld:=rep_load w8 w.heap.size cs2 HK8.out hsz
  refine bodyPost_ret (v:=.tuple #[.agg cs2,.int .i64 er]) (by simp [results,Tryz.results10 ,Sem.run_bind,Sem.run_pure,asAddr,hld]) rfl ?_
  have hc48:Chg (λb=>b=w4.heap.size∨b=w.heap.size) w4 w8:=((Chg.of_below (Gr.new w4 (.cells #[.slice none 0 0,.slice none 0 0,.int .i64 0,.int .i64 0,.int .i64 0,.int .i64 0,.int .i64 0,.int .i64 0,.int .i64 0] 32))).trans (HC7.out.mono (λ_ _ e=>.inl e))).trans (HC8.out.mono (λ_ _ e=>.inr e))
  have hw4:Below w.heap.size w w4:=Gr.trans (Gr.new _ _) HB4.out
  have hw4s:=hw4.size
  refine⟨hw4.trans (hc48.below (λb e=>by rcases e with e|e<;>omega) hw4.size),ea,en,ec,va,vn,vc,rp,lv,by rw [HCS.out];rfl,?_⟩
  rcases HRes.out with h|⟨h1,h2,h3,h4,ers,h5,h6,h7⟩
  · exact .inl h
  · have hb7:Below w4.heap.size w4 w7:=(Gr.new w4 _).trans (HC7.out.below (λb e=>by omega) (Gr.new w4 (.cells #[.slice none 0 0,.slice none 0 0,.int .i64 0,.int .i64 0,.int .i64 0,.int .i64 0,.int .i64 0,.int .i64 0,.int .i64 0] 32)).size)
    have hsz1:(w.alloc (.cells #[.slice none 0 0,.slice none 0 0,.int .i64 0,.int .i64 0,.int .i64 0,.int .i64 0,.int .i64 0,.int .i64 0,.int .i64 0] 32)).heap.size=w.heap.size+1:=by simp
    refine .inr ⟨h1,h2,h3,h4,ers,((h5.grown hb7).chg HC8.out (λb e=>⟨.inr e,by have e9:b=w.heap.size:=e;omega⟩)).low (by omega) (λb e=>.inl e),?_,λh0 b off e=>by have:=h7 h0 b off e;omega⟩
    rcases Nat.eq_zero_or_pos r.words.length with h0|h0
    · rw [h4,h0];exact SlAt.nil _ _ _ _
    · exact(h6.grown hb7).chg HC8.out (λb off e e9=>by have:=h7 h0 b off e;have e8:b=w.heap.size:=e9;omega)
end
section

/- What the checkers say of things that are alike. -/
open Go.RowKit
theorem same_eq (xs:List Nat) (a a2:Option Addr) (c c2:Nat) (w:World) (hs:SlAt w a xs.length 1 (u64G xs)) (hs2:SlAt w a2 xs.length 1 (u64G xs)) :
  Calls Tryz.prog 23 #[.slice a xs.length c,.slice a2 xs.length c2] w λe w'=>e=.returned (.bool true)/\Below w.heap.size w w':=by
 have hm:=hs.1
 unfold maxLen at hm
 have Hs:=Lib.hid hs;have Hs2:=Lib.hid hs2
 clear hs hs2
 go_enter Tryz.func23,Tryz.ntmps23
 go_wp2
 go_loopw [5,13] (λ_ i wr=>∃ k:Nat,k<=xs.length/\i=.int .i64 k/\Below w.heap.size w wr) (λ_ i _=>xs.length - (intOf i).toNat)
 case atStart=>exact⟨0,Nat.zero_le _,rfl,Gr.refl _⟩
 case round=>
  obtain⟨k,hk,rfl,hb⟩:=hrel
  by_cases hlt:k<xs.length
  ·obtain⟨b,o,rfl,h4⟩:=Hs.out.elem hb hlt
   obtain⟨b2,o2,rfl,h5⟩:=Hs2.out.elem hb hlt
   obtain⟨x,hx⟩:∃ x,x=xs.getD k 0:=⟨_,rfl⟩
   have e4:wr.cell? ⟨b,o+k,none⟩=some (.int .u64 (x:Int)):=by have h0:=h4 0 (by omega);rw [Nat.mul_one,Nat.add_zero] at h0;rw [h0,hx];rfl
   have e5:wr.cell? ⟨b2,o2+k,none⟩=some (.int .u64 (x:Int)):=by have h0:=h5 0 (by omega);rw [Nat.mul_one,Nat.add_zero] at h0;rw [h0,hx];rfl
   have l1:(k:Int)<xs.length:=by omega
   have Hb:=Lib.hid hb
   clear h4 h5 hb hx
   go_wp2_with fail
   go_quiet (fail)
   go_wp2
   go_roundw
   case rel=>exact⟨k+1,by omega,by go_num,below_drewN Hb.out _⟩
   case measure=>simp [intOf]<;>omega
  ·have l1:¬ (k:Int)<xs.length:=by omega
   have Hb:=Lib.hid hb
   clear hb
   go_wp2
   go_ret
   exact⟨rfl,Hb.out⟩
theorem ints_eq (xs:List Int) (a a2:Option Addr) (c c2:Nat) (w:World) (hs:SlAt w a xs.length 1 (intG xs)) (hs2:SlAt w a2 xs.length 1 (intG xs)) :
  Calls Tryz.prog 46 #[.slice a xs.length c,.slice a2 xs.length c2] w λe w'=>e=.returned (.bool true)/\Below w.heap.size w w':=by
 have hm:=hs.1
 unfold maxLen at hm
 have Hs:=Lib.hid hs;have Hs2:=Lib.hid hs2
 clear hs hs2
 go_enter Tryz.func46,Tryz.ntmps46
 go_wp2
 go_loopw [5,13] (λ_ i wr=>∃ k:Nat,k<=xs.length/\i=.int .i64 k/\Below w.heap.size w wr) (λ_ i _=>xs.length - (intOf i).toNat)
 case atStart=>exact⟨0,Nat.zero_le _,rfl,Gr.refl _⟩
 case round=>
  obtain⟨k,hk,rfl,hb⟩:=hrel
  by_cases hlt:k<xs.length
  ·obtain⟨b,o,rfl,h4⟩:=Hs.out.elem hb hlt
   obtain⟨b2,o2,rfl,h5⟩:=Hs2.out.elem hb hlt
   obtain⟨x,hx⟩:∃ x,x=xs.getD k 0:=⟨_,rfl⟩
   have e4:wr.cell? ⟨b,o+k,none⟩=some (.int .i64 x):=by have h0:=h4 0 (by omega);rw [Nat.mul_one,Nat.add_zero] at h0;rw [h0,hx];rfl
   have e5:wr.cell? ⟨b2,o2+k,none⟩=some (.int .i64 x):=by have h0:=h5 0 (by omega);rw [Nat.mul_one,Nat.add_zero] at h0;rw [h0,hx];rfl
   have l1:(k:Int)<xs.length:=by omega
   have Hb:=Lib.hid hb
   clear h4 h5 hb hx
   go_wp2_with fail
   go_quiet (fail)
   go_wp2
   go_roundw
   case rel=>exact⟨k+1,by omega,by go_num,below_drewN Hb.out _⟩
   case measure=>simp [intOf]<;>omega
  ·have l1:¬ (k:Int)<xs.length:=by omega
   have Hb:=Lib.hid hb
   clear hb
   go_wp2
   go_ret
   exact⟨rfl,Hb.out⟩
theorem answer_eq (er:Int) (vl:Nat) (xs:List Nat) (a a2:Option Addr) (c c2:Nat) (w:World) (hs:SlAt w a xs.length 1 (u64G xs)) (hs2:SlAt w a2 xs.length 1 (u64G xs)) :
  Calls Tryz.prog 45 #[.agg #[.int .i64 er,.int .u64 (vl:Int),.slice a xs.length c],.agg #[.int .i64 er,.int .u64 (vl:Int),.slice a2 xs.length c2]] w λe w'=>e=.returned (.bool true)/\Below w.heap.size w w':=by
 have S:=Lib.hid (λ(u:World) (h:Below w.heap.size w u)=>same_eq xs a a2 c c2 u (hs.grown h) (hs2.grown h))
 obtain⟨n,hn⟩:∃ n,n=xs.length:=⟨_,rfl⟩
 rw [<-hn] at S ⊢
 clear hs hs2 hn
 go_enter Tryz.func45,Tryz.ntmps45
 go_wp2_with (go_at_call 23;refine(S.out _ (Gr.alloc (Gr.new _ _) _)).mono ?_;rintro e w' ⟨rfl,hb⟩)
 go_ret
 exact⟨rfl,Gr.trans (Gr.alloc (Gr.new _ _) _) hb⟩
def evV (e:EvD) (la:Option Addr) (lc:Nat) (ka:Option Addr) (kc:Nat):Value:=.agg #[.int .i64 (e.call:Int),.int .i64 (e.inv:Int),.int .i64 (e.resp:Int),.int .i64 (e.steps:Int),.int .i64 e.ans.err,.int .u64 (e.ans.val:Int),.slice la e.ans.list.length lc,.slice ka e.key.length kc]
theorem event_eq (e:EvD) (la la2 ka ka2:Option Addr) (lc lc2 kc kc2:Nat) (w:World) (hl:SlAt w la e.ans.list.length 1 (u64G e.ans.list)) (hl2:SlAt w la2 e.ans.list.length 1 (u64G e.ans.list)) (hk:SlAt w ka e.key.length 1 (intG e.key)) (hk2:SlAt w ka2 e.key.length 1 (intG e.key)) :
  Calls Tryz.prog 24 #[evV e la lc ka kc,evV e la2 lc2 ka2 kc2] w λr w'=>r=.returned (.bool true)/\Below w.heap.size w w':=by
 obtain⟨cl,iv,rs,st,⟨er,vl,li⟩,ky⟩:=e
 unfold evV
 simp only at hl hl2 hk hk2 ⊢
 have A:=Lib.hid (λ(u:World) (h:Below w.heap.size w u)=>answer_eq er vl li la la2 lc lc2 u (hl.grown h) (hl2.grown h))
 have K:=Lib.hid (λ(u:World) (h:Below w.heap.size w u)=>ints_eq ky ka ka2 kc kc2 u (hk.grown h) (hk2.grown h))
 obtain⟨n,hn⟩:∃ n,n=li.length:=⟨_,rfl⟩
 obtain⟨m,hm⟩:∃ m,m=ky.length:=⟨_,rfl⟩
 rw [<-hn] at A ⊢
 rw [<-hm] at K ⊢
 clear hl hl2 hk hk2 hn hm
 obtain⟨wa,hwa⟩:∃ wa,wa=(w.alloc (.cells #[.int .i64 (cl:Int),.int .i64 (iv:Int),.int .i64 (rs:Int),.int .i64 (st:Int),.int .i64 er,.int .u64 (vl:Int),.slice la n lc,.slice ka m kc] 52)).alloc (.cells #[.int .i64 (cl:Int),.int .i64 (iv:Int),.int .i64 (rs:Int),.int .i64 (st:Int),.int .i64 er,.int .u64 (vl:Int),.slice la2 n lc2,.slice ka2 m kc2] 52):=⟨_,rfl⟩
 have hga:Below w.heap.size w wa:=by rw [hwa];exact Gr.alloc (Gr.new _ _) _
 have hr1:wa.heap[w.heap.size]?=some (.cells #[.int .i64 (cl:Int),.int .i64 (iv:Int),.int .i64 (rs:Int),.int .i64 (st:Int),.int .i64 er,.int .u64 (vl:Int),.slice la n lc,.slice ka m kc] 52 (0,0)):=by rw [hwa,Below.heap_alloc _ _ _ (by simp)];exact heap_alloc_new _ _
 have hr2:wa.heap[w.heap.size+1]?=some (.cells #[.int .i64 (cl:Int),.int .i64 (iv:Int),.int .i64 (rs:Int),.int .i64 (st:Int),.int .i64 er,.int .u64 (vl:Int),.slice la2 n lc2,.slice ka2 m kc2] 52 (0,0)):=by
  rw [hwa]
  have:=heap_alloc_new (w.alloc (.cells #[.int .i64 (cl:Int),.int .i64 (iv:Int),.int .i64 (rs:Int),.int .i64 (st:Int),.int .i64 er,.int .u64 (vl:Int),.slice la n lc,.slice ka m kc] 52)) (.cells #[.int .i64 (cl:Int),.int .i64 (iv:Int),.int .i64 (rs:Int),.int .i64 (st:Int),.int .i64 er,.int .u64 (vl:Int),.slice la2 n lc2,.slice ka2 m kc2] 52 (0,0))
  simp only [World.size_alloc] at this
  exact this
 have Hwa:=Lib.hid hwa;have Hga:=Lib.hid hga;have Hr1:=Lib.hid hr1;have Hr2:=Lib.hid hr2
 clear hwa hga hr1 hr2
 go_enter Tryz.func24,Tryz.ntmps24
 go_wp2_with fail
 rw [<-Hwa.out]
 refine(A.out _ Hga.out).mono ?_
 rintro r w1 ⟨rfl,hb1⟩
 have s1:=(hb1.block _ (blk_lt Hr1.out)).trans Hr1.out
 have s2:=(hb1.block _ (blk_lt Hr2.out)).trans Hr2.out
 have k7:w1.cell? ⟨w.heap.size,7,none⟩=some (.slice ka m kc):=by rw [cell_blk s1];rfl
 have k7':w1.cell? ⟨w.heap.size+1,7,none⟩=some (.slice ka2 m kc2):=by rw [cell_blk s2];rfl
 have Hb1:=Lib.hid hb1
 clear s1 s2 hb1
 go_wp2_with fail
 refine(K.out _ (Gr.trans Hga.out Hb1.out)).mono ?_
 rintro r w2 ⟨rfl,hb2⟩
 have Hb2:=Lib.hid hb2
 clear hb2
 go_wp2
 go_ret
 exact⟨rfl,Gr.trans Hga.out (Gr.trans Hb1.out Hb2.out)⟩
end
section

/- Layer 6: two threads that add to a cell. -/
open Go.RowKit
end
section

/- Layer 6: what has responded stays, in plain numbers. -/
open Go.RowKit
variable {S:Sys}
structure Stay (st st':PlayD S):Prop where
 len:st.evs.length<=st'.evs.length
 now:st.wd.now<=st'.wd.now
 idle:st.idle<=st'.idle
 inv:∀ i,i<st.evs.length->(evAt st'.evs i).inv=(evAt st.evs i).inv
 ev:∀ i,i<st.evs.length->(evAt st.evs i).resp≠0->evAt st'.evs i=evAt st.evs i
theorem Stay.refl (st:PlayD S):Stay st st:=⟨Nat.le_refl _,Nat.le_refl _,Nat.le_refl _,λ_ _=>rfl,λ_ _ _=>rfl⟩
theorem Stay.trans {a b c:PlayD S} (h:Stay a b) (k:Stay b c):Stay a c:=
 ⟨Nat.le_trans h.len k.len,Nat.le_trans h.now k.now,Nat.le_trans h.idle k.idle,λi hi=>(k.inv i (Nat.lt_of_lt_of_le hi h.len)).trans (h.inv i hi),λi hi hr=>(k.ev i (Nat.lt_of_lt_of_le hi h.len) (by rw [h.ev i hi hr];exact hr)).trans (h.ev i hi hr)⟩
end
section

/- Layer 6: the walk of LoomStays. -/
open Go.RowKit
theorem thr_ok {n:Int} {calls:List CallD} {np:Nat} (hck:checkN n calls np=0):∀ c,c<calls.length->0<=(calls.getD c d0).thread/\(calls.getD c d0).thread<n:=by
 obtain⟨hw0,_⟩:=checkN_zero hck
 obtain⟨z1,z2,z3,z4⟩:=wrongN_zero hw0
 intro c hcl
 unfold anyBad at z4
 rw [List.any_eq_false] at z4
 have e:calls.getD c d0=calls[c]:=by simp [List.getD_eq_getElem?_getD,hcl]
 have h9:badT n calls[c]=false:=by simpa using z4 calls[c] (List.getElem_mem hcl)
 rw [e]
 obtain⟨y,hy⟩:∃ y,y=calls[c]:=⟨_,rfl⟩
 rw [<-hy] at h9 ⊢
 unfold badT at h9
 simp at h9
 omega
theorem thr_16 {n:Int} {calls:List CallD} {np:Nat} (hck:checkN n calls np=0):∀ c,c<calls.length->0<=(calls.getD c d0).thread/\(calls.getD c d0).thread<16:=by
 obtain⟨hw0,_⟩:=checkN_zero hck
 obtain⟨z1,z2,z3,z4⟩:=wrongN_zero hw0
 intro c hc
 have:=thr_ok hck c hc
 omega
theorem SlAt.take {w:World} {a:Option Addr} {l:List Int} (h:SlAt w a l.length 1 (intG l)) (k:Nat) (hk:k<=l.length):SlAt w a (l.take k).length 1 (intG (l.take k)):=by
 have e:(l.take k).length=k:=by simp;omega
 rw [e]
 refine⟨Nat.le_trans hk h.1,λj hj=>?_⟩
 obtain⟨b,off,h1,h2,h3⟩:=h.2 j (by omega)
 refine⟨b,off,h1,h2,λf hf=>?_⟩
 rw [h3 f hf]
 unfold intG
 congr 2
 simp [List.getD_eq_getElem?_getD,List.getElem?_take,hj]
structure RepIn (w u:World) (b:Nat) (ea:Option Addr) (en ec:Nat) (va:Option Addr) (vn vc:Nat) (rp:RepD):Prop where
 ge:w.heap.size<=b
 blk:u.heap[b]?=some (.cells #[.slice ea en ec,.slice va vn vc,.int .i64 (rp.c.read:Int),.int .i64 (rp.c.write:Int),.int .i64 (rp.c.swap:Int),.int .i64 (rp.c.add:Int),.int .i64 (rp.c.fault:Int),.int .i64 (rp.ticks:Int),.int .i64 (rp.idle:Int)] 32 (0,0))
theorem RepIn.grown {w u u':World} {b:Nat} {ea:Option Addr} {en ec:Nat} {va:Option Addr} {vn vc:Nat} {rp:RepD} (h:RepIn w u b ea en ec va vn vc rp) (hb:Below u.heap.size u u'):RepIn w u' b ea en ec va vn vc rp:=⟨h.ge,(hb.block b (blk_lt h.blk)).trans h.blk⟩
theorem RepIn.cell {w u:World} {b:Nat} {ea:Option Addr} {en ec:Nat} {va:Option Addr} {vn vc:Nat} {rp:RepD} (h:RepIn w u b ea en ec va vn vc rp) (j:Nat):u.cell? ⟨b,j,none⟩=(#[.slice ea en ec,.slice va vn vc,.int .i64 (rp.c.read:Int),.int .i64 (rp.c.write:Int),.int .i64 (rp.c.swap:Int),.int .i64 (rp.c.add:Int),.int .i64 (rp.c.fault:Int),.int .i64 (rp.ticks:Int),.int .i64 (rp.idle:Int)]:Array Value)[j]?:=cell_blk h.blk j
end
section

/- Two reports that say the same are alike: roundelayplain.Same. -/
open Go.RowKit
set_option maxHeartbeats 8000000 in
theorem rsame_any {X Y:Nat->Prop} {B B':Nat} (w:World) (ea ea2 va va2:Option Addr) (en ec ec2 vn vc vc2:Nat) (ers ers2:List (Value×Value)) (rp:RepD) (hrep:RepAt X B w (.slice ea en ec) (.slice va vn vc) ers rp) (hrep2:RepAt Y B' w (.slice ea2 en ec2) (.slice none 0 0) ers2 { rp with words:=[] }) (hsw2:SlAt w va2 vn 1 (u64G rp.words))
  (hen:en=rp.evs.length) (hvn:vn=rp.words.length) (hlen:rp.evs.length<1000000) (hwl:rp.words.length<1000000) :
  Calls Tryz.prog 11 #[repV (.slice ea en ec) (.slice va vn vc) rp,repV (.slice ea2 en ec2) (.slice va2 vn vc2) rp] w λe w'=>e=.returned (.bool true)/\Below w.heap.size w w':=by
 obtain⟨wa,hwa⟩:∃ wa,wa=(w.alloc (.cells #[.slice ea en ec,.slice va vn vc,.int .i64 (rp.c.read:Int),.int .i64 (rp.c.write:Int),.int .i64 (rp.c.swap:Int),.int .i64 (rp.c.add:Int),.int .i64 (rp.c.fault:Int),.int .i64 (rp.ticks:Int),.int .i64 (rp.idle:Int)] 32)).alloc (.cells #[.slice ea2 en ec2,.slice va2 vn vc2,.int .i64 (rp.c.read:Int),.int .i64 (rp.c.write:Int),.int .i64 (rp.c.swap:Int),.int .i64 (rp.c.add:Int),.int .i64 (rp.c.fault:Int),.int .i64 (rp.ticks:Int),.int .i64 (rp.idle:Int)] 32):=⟨_,rfl⟩
 have hga:Below w.heap.size w wa:=by rw [hwa];exact Gr.alloc (Gr.new _ _) _
 have hr1:wa.heap[w.heap.size]?=some (.cells #[.slice ea en ec,.slice va vn vc,.int .i64 (rp.c.read:Int),.int .i64 (rp.c.write:Int),.int .i64 (rp.c.swap:Int),.int .i64 (rp.c.add:Int),.int .i64 (rp.c.fault:Int),.int .i64 (rp.ticks:Int),.int .i64 (rp.idle:Int)] 32 (0,0)):=by rw [hwa,Below.heap_alloc _ _ _ (by simp)];exact heap_alloc_new _ _
 have hr2:wa.heap[w.heap.size+1]?=some (.cells #[.slice ea2 en ec2,.slice va2 vn vc2,.int .i64 (rp.c.read:Int),.int .i64 (rp.c.write:Int),.int .i64 (rp.c.swap:Int),.int .i64 (rp.c.add:Int),.int .i64 (rp.c.fault:Int),.int .i64 (rp.ticks:Int),.int .i64 (rp.idle:Int)] 32 (0,0)):=by
  rw [hwa]
  have:=heap_alloc_new (w.alloc (.cells #[.slice ea en ec,.slice va vn vc,.int .i64 (rp.c.read:Int),.int .i64 (rp.c.write:Int),.int .i64 (rp.c.swap:Int),.int .i64 (rp.c.add:Int),.int .i64 (rp.c.fault:Int),.int .i64 (rp.ticks:Int),.int .i64 (rp.idle:Int)] 32)) (.cells #[.slice ea2 en ec2,.slice va2 vn vc2,.int .i64 (rp.c.read:Int),.int .i64 (rp.c.write:Int),.int .i64 (rp.c.swap:Int),.int .i64 (rp.c.add:Int),.int .i64 (rp.c.fault:Int),.int .i64 (rp.ticks:Int),.int .i64 (rp.idle:Int)] 32 (0,0))
  simp only [World.size_alloc] at this
  exact this
 have hs1:w.heap.size<wa.heap.size:=blk_lt hr1
 have hs2:w.heap.size+1<wa.heap.size:=blk_lt hr2
 have r0:wa.cell? ⟨w.heap.size,0,none⟩=some (.slice ea en ec):=by rw [cell_blk hr1];rfl
 have r1:wa.cell? ⟨w.heap.size,1,none⟩=some (.slice va vn vc):=by rw [cell_blk hr1];rfl
 have r2:wa.cell? ⟨w.heap.size,2,none⟩=some (.int .i64 (rp.c.read:Int)):=by rw [cell_blk hr1];rfl
 have r3:wa.cell? ⟨w.heap.size,3,none⟩=some (.int .i64 (rp.c.write:Int)):=by rw [cell_blk hr1];rfl
 have r4:wa.cell? ⟨w.heap.size,4,none⟩=some (.int .i64 (rp.c.swap:Int)):=by rw [cell_blk hr1];rfl
 have r5:wa.cell? ⟨w.heap.size,5,none⟩=some (.int .i64 (rp.c.add:Int)):=by rw [cell_blk hr1];rfl
 have r6:wa.cell? ⟨w.heap.size,6,none⟩=some (.int .i64 (rp.c.fault:Int)):=by rw [cell_blk hr1];rfl
 have r7:wa.cell? ⟨w.heap.size,7,none⟩=some (.int .i64 (rp.ticks:Int)):=by rw [cell_blk hr1];rfl
 have r8:wa.cell? ⟨w.heap.size,8,none⟩=some (.int .i64 (rp.idle:Int)):=by rw [cell_blk hr1];rfl
 have s0:wa.cell? ⟨w.heap.size+1,0,none⟩=some (.slice ea2 en ec2):=by rw [cell_blk hr2];rfl
 have s1:wa.cell? ⟨w.heap.size+1,1,none⟩=some (.slice va2 vn vc2):=by rw [cell_blk hr2];rfl
 have s2:wa.cell? ⟨w.heap.size+1,2,none⟩=some (.int .i64 (rp.c.read:Int)):=by rw [cell_blk hr2];rfl
 have s3:wa.cell? ⟨w.heap.size+1,3,none⟩=some (.int .i64 (rp.c.write:Int)):=by rw [cell_blk hr2];rfl
 have s4:wa.cell? ⟨w.heap.size+1,4,none⟩=some (.int .i64 (rp.c.swap:Int)):=by rw [cell_blk hr2];rfl
 have s5:wa.cell? ⟨w.heap.size+1,5,none⟩=some (.int .i64 (rp.c.add:Int)):=by rw [cell_blk hr2];rfl
 have s6:wa.cell? ⟨w.heap.size+1,6,none⟩=some (.int .i64 (rp.c.fault:Int)):=by rw [cell_blk hr2];rfl
 have s7:wa.cell? ⟨w.heap.size+1,7,none⟩=some (.int .i64 (rp.ticks:Int)):=by rw [cell_blk hr2];rfl
 have s8:wa.cell? ⟨w.heap.size+1,8,none⟩=some (.int .i64 (rp.idle:Int)):=by rw [cell_blk hr2];rfl
 obtain⟨a9,c9,e9,hsw,_⟩:=sl_of_row (g:=u64G rp.words) hrep.words (by unfold maxLen;omega) (λj hj=>by simp [u64G,u64V,List.getD_eq_getElem?_getD,hj])
 simp only [Value.slice.injEq] at e9
 obtain⟨rfl,rfl,rfl⟩:=e9
 have SE:=Lib.hid (λ(u:World) (hu:Below wa.heap.size wa u)=>same_eq rp.words va va2 vc vc2 u ((hsw.grown hga).grown hu) ((hsw2.grown hga).grown hu))
 have Hrep:=Lib.hid (hrep.grown hga);have Hrep2:=Lib.hid (hrep2.grown hga);have Hga:=Lib.hid hga;have Hwa:=Lib.hid hwa;have Hen:=Lib.hid hen
 have R0:=Lib.hid r0;have S0:=Lib.hid s0
 have henl:en<=9223372036854775807:=by omega
 clear hrep hrep2 hga hwa hen hvn hr1 hr2 hsw hsw2
 unfold repV
 go_enter Tryz.func11,Tryz.ntmps11
 go_upto_region 1 with fail
 rw [<-Hwa.out]
 go_wp2_with fail
 refine(SE.out _ (Gr.refl _)).mono ?_
 rintro e w2 ⟨rfl,hb2⟩
 have q0:=(hb2.cell hs1).trans r0
 have Hb2:=Lib.hid hb2
 have S0:=Lib.hid s0;have Q0:=Lib.hid r0
 clear r0 s0 r1 s1 r2 s2 r3 s3 r4 s4 r5 s5 r6 s6 r7 s7 r8 s8 hb2
 go_wp2
 go_loopw [45] (λi wr=>∃ j:Nat,j<=en/\i=.int .i64 j/\Below wa.heap.size wa wr) (λi _=>en - (intOf i).toNat)
 case atStart=>exact⟨0,Nat.zero_le _,rfl,Hb2.out⟩
 case round=>
  clear q0
  obtain⟨j,hj,rfl,hb⟩:=hrel
  by_cases hlt:j<en
  ·obtain⟨g,la,lc,ka,kc,rfl,hgl,e0,e1,e2,e3,e4,e5,e6,e7,hls,hks,_⟩:=Hrep.out.ev8 Hen.out hlt hb
   obtain⟨g2,la2,lc2,ka2,kc2,rfl,hgl2,f0,f1,f2,f3,f4,f5,f6,f7,hls2,hks2,_⟩:=Hrep2.out.ev8 Hen.out hlt hb
   simp only at f0 f1 f2 f3 f4 f5 f6 f7 hls2 hks2
   obtain⟨E,hE⟩:∃ E,E=evAt rp.evs j:=⟨_,rfl⟩
   rw [<-hE] at e0 e1 e2 e3 e4 e5 e6 e7 f0 f1 f2 f3 f4 f5 f6 f7 hls hks hls2 hks2
   have EQ:=(λ(u:World) (h:Below wr.heap.size wr u)=>event_eq E la la2 ka ka2 lc lc2 kc kc2 u (hls.grown h) (hls2.grown h) (hks.grown h) (hks2.grown h))
   obtain⟨c,iv,rs,st,⟨er,vl,li⟩,ky⟩:=E
   unfold evV at EQ
   simp only at e0 e1 e2 e3 e4 e5 e6 e7 f0 f1 f2 f3 f4 f5 f6 f7 EQ
   obtain⟨ln,hln⟩:∃ ln,ln=li.length:=⟨_,rfl⟩
   obtain⟨kn,hkn⟩:∃ kn,kn=ky.length:=⟨_,rfl⟩
   rw [<-hln] at e6 f6 EQ
   rw [<-hkn] at e7 f7 EQ
   have q0:=(hb.cell hs1).trans Q0.out
   have s0:=(hb.cell hs2).trans S0.out
   have A0:=grown_cell q0;have B0:=grown_cell s0
   have E0:=grown_cell e0;have F0:=grown_cell f0
   have E1:=grown_cell e1;have F1:=grown_cell f1
   have E2:=grown_cell e2;have F2:=grown_cell f2
   have E3:=grown_cell e3;have F3:=grown_cell f3
   have E4:=grown_cell e4;have F4:=grown_cell f4
   have E5:=grown_cell e5;have F5:=grown_cell f5
   have E6:=grown_cell e6;have F6:=grown_cell f6
   have E7:=grown_cell e7;have F7:=grown_cell f7
   have HEQ:=Lib.hid EQ;have Hb:=Lib.hid hb
   have l1:(j:Int)<(en:Int):=by omega
   clear EQ hls hks hls2 hks2 hE hln hkn hb q0 s0 e0 f0 e1 f1 e2 f2 e3 f3 e4 f4 e5 f5 e6 f6 e7 f7
   go_wp2_with fail
   ((with_reducible refine wp_region_grown_lit (by kernel_rfl) (by kernel_rfl) ?_);(repeat ((go_big_quiet_want;go_big_quiet_op;first|go_big_quiet_on|((with_reducible apply Exists.intro);(with_reducible refine⟨λ_=>?_,?_⟩);((go_at_call 24;exact quietG (HEQ.out _ (GrownOf.below _))));go_big_quiet_on))));(with_reducible refine wpQuiet_nil ?_);intro _ hw';obtain⟨nq,hw''⟩:=hw';subst hw'')
   obtain⟨w3,hw3⟩:∃ w3,w3=nq.u:=⟨_,rfl⟩
   have hb3:=nq.below
   rw [<-hw3] at hb3 ⊢
   have Hb3:=Lib.hid hb3
   clear A0 B0 E0 F0 E1 F1 E2 F2 E3 F3 E4 F4 E5 F5 E6 F6 E7 F7 hw3 nq hb3
   go_wp2
   go_roundw
   case rel=>exact⟨j+1,by omega,by go_num,Gr.trans Hb.out Hb3.out⟩
   case measure=>simp [intOf]<;>omega
  ·have l1:¬ (j:Int)<(en:Int):=by omega
   have Hb:=Lib.hid hb
   clear hb
   go_wp2
   go_ret
   exact⟨rfl,Gr.trans Hga.out Hb.out⟩
end
end Go.Proofs.YtfkokppncipgnaaGreat
