/- Layer 15: a thread that updates, and another one that scans. -/
import Derived.Test.YtlepjmnhekeofaaS44
import Derived.Test.YtlepjmnhekeofaaS23
import Derived.Test.YtlepjmnhekeofaaS24
set_option maxRecDepth 100000
set_option linter.unusedVariables false
set_option linter.unusedSimpArgs false
set_option linter.unnecessarySimpa false
namespace Go.Proofs.Ytlepjmnhekeofaa
section
open Go.RowKit
theorem snCheck_zero {q0 q1:Int} {calls:List CallD} {np:Nat} (h:snCheck q0 q1 calls np=0):checkN q0 calls np=0/\1<=q1/\q1<=64:=by
 unfold snCheck at h
 split at h
 ·rename_i h1;exact absurd h h1
 ·rename_i h1
  split at h
  ·cases h
  ·rename_i h2;exact⟨Classical.not_not.1 h1,by omega,by omega⟩
theorem snapPlay_safe (X:Nat->Prop) (w:World) (n k:Int) (calls:List CallD) (picks:List Int) (ca pa:Option Addr) (cc pc:Nat) (hX:∀ b,X b->b<w.heap.size) (hc:CallsAt X w ca calls) (hp:PicksAt w pa picks) :
  Calls Try.prog 23 #[.int .i64 n,.int .i64 k,.slice ca calls.length cc,.slice pa picks.length pc] w λe w'=>PlayRet X w w' (snCheck n k calls picks.length) (playD (snapS n.toNat k.toNat) snO0 (List.replicate (snSize n.toNat k.toNat) 0) calls picks) e:=by
 refine snapPlay_any X w n k calls picks ca pa cc pc hX hc hp (λh0 h1 h2=>?_)
 have hn:=n_ok h0
 exact sn_safe (by omega) (by rw [show((n.toNat:Nat):Int)=n by omega];exact h0)
def fiveCalls15:List CallD:=[⟨0,0,0,5,0,0⟩,⟨1,0,1,0,0,0⟩]
theorem five_rep15:playD (snapS 2 1) snO0 (List.replicate (snSize 2 1) 0) fiveCalls15 [0,0,0,0,0,0,0,0,1,1,1,1,1]=⟨[⟨0,1,8,8,⟨0,0,[]⟩,[16]⟩,⟨1,9,13,5,⟨0,0,[5,0]⟩,[20,26]⟩],[2,0,5,0,0,0,0,0],⟨9,4,0,0,0⟩,13,0⟩:=by kernel_rfl
theorem five_check15:snCheck 2 1 fiveCalls15 13=0:=by rfl
set_option maxHeartbeats 4000000 in
theorem snap_five (w:World):Calls Try.prog 22 #[] w λe w'=>e=.returned (.bool true)/\Below w.heap.size w w':=by
 obtain⟨wa,hwa⟩:∃ wa,wa=(w.alloc (.cells #[.int .i64 0,.int .i64 0,.int .i64 0,.int .u64 5,.int .u64 0,.int .u64 0,.int .i64 1,.int .i64 0,.int .i64 1,.int .u64 0,.int .u64 0,.int .u64 0] 46)).alloc (.cells #[.int .i64 0,.int .i64 0,.int .i64 0,.int .i64 0,.int .i64 0,.int .i64 0,.int .i64 0,.int .i64 0,.int .i64 1,.int .i64 1,.int .i64 1,.int .i64 1,.int .i64 1] 3):=⟨_,rfl⟩
 have hga:Below w.heap.size w wa:=by rw [hwa];exact Gr.alloc (Gr.new _ _) _
 have h1:wa.heap[w.heap.size]?=some (.cells (fiveCalls15.flatMap callL).toArray 46 (0,0)):=by rw [hwa,Below.heap_alloc _ _ _ (by simp),heap_alloc_new];rfl
 have h2:wa.heap[w.heap.size+1]?=some (.cells (([0,0,0,0,0,0,0,0,1,1,1,1,1]:List Int).map (Value.int .i64)).toArray 3 (0,0)):=by
  rw [hwa]
  have:=heap_alloc_new (w.alloc (.cells #[.int .i64 0,.int .i64 0,.int .i64 0,.int .u64 5,.int .u64 0,.int .u64 0,.int .i64 1,.int .i64 0,.int .i64 1,.int .u64 0,.int .u64 0,.int .u64 0] 46)) (.cells #[.int .i64 0,.int .i64 0,.int .i64 0,.int .i64 0,.int .i64 0,.int .i64 0,.int .i64 0,.int .i64 0,.int .i64 1,.int .i64 1,.int .i64 1,.int .i64 1,.int .i64 1] 3 (0,0))
  simp only [World.size_alloc] at this
  exact this
 have P:=snapPlay_safe noB wa 2 1 fiveCalls15 [0,0,0,0,0,0,0,0,1,1,1,1,1] (some ⟨w.heap.size,0,none⟩) (some ⟨w.heap.size+1,0,none⟩) 2 13 (λb hb=>hb.elim) ⟨calls_block h1 (by decide),(by
   intro x hx
   simp only [fiveCalls15,List.mem_cons,List.not_mem_nil,or_false] at hx
   rcases hx with rfl|rfl<;>exact callOk_small (by decide) (by decide) (by decide) (by decide) (by decide) (by decide) (by decide)),λ_ _ _ _ h=>h⟩ ⟨ints_block h2 (by decide),by intro x hx;simp only [List.mem_cons,List.not_mem_nil,or_false] at hx;rcases hx with rfl|rfl|rfl|rfl|rfl|rfl|rfl|rfl|rfl|rfl|rfl|rfl|rfl<;>rfl⟩
 rw [show([0,0,0,0,0,0,0,0,1,1,1,1,1]:List Int).length=13 from rfl,five_check15,show(2:Int).toNat=2 from rfl,show(1:Int).toNat=1 from rfl,five_rep15,show fiveCalls15.length=2 from rfl] at P
 have HP:=Lib.hid P;have Hwa:=Lib.hid hwa;have Hga:=Lib.hid hga
 clear P h1 h2 hwa hga
 go_enter Try.func22,Try.ntmps22
 go_wp2_with fail
 rw [<-Hwa.out]
 refine HP.out.mono ?_
 rintro e w1 ⟨ea,en,ec,va,vn,vc,rp,rfl,hb,hr⟩
 rcases hr with⟨h0,_⟩|⟨_,hrp,hen,hvn,ers,hrep⟩
 ·exact absurd rfl h0
 subst hrp
 obtain⟨g,la,lc,ka,kc,rfl,hg,_,_,_,_,_,_,e6,_,hls,_,_⟩:=hrep.ev8 hen (k:=1) (by rw [hen];decide) (Gr.refl _)
 obtain⟨g2,hgg,_,hev⟩:=hrep.event hen (by rw [hen];decide)
 cases hgg
 have hen2:en=2:=hen
 subst hen2
 have c14:w1.cell? ⟨g,14,none⟩=some (.slice la 2 lc):=e6
 have hls':SlAt w1 la [5,0].length 1 (u64G [5,0]):=hls
 have c2:w1.cell? ⟨g,2,none⟩=some (.int .i64 8):=hev 0 2 (by omega) (by omega)
 have c10:w1.cell? ⟨g,10,none⟩=some (.int .i64 13):=hev 1 2 (by omega) (by omega)
 have Hb:=Lib.hid hb;have Hls:=Lib.hid hls'
 obtain⟨w4,hw4⟩:∃ w4,w4=(w1.alloc (.cells #[.slice (some ⟨g,0,none⟩) 2 ec,.slice va vn vc,.int .i64 9,.int .i64 4,.int .i64 0,.int .i64 0,.int .i64 0,.int .i64 13,.int .i64 0] 32)).alloc (.cells #[.int .u64 5,.int .u64 0] 40):=⟨_,rfl⟩
 have hb4:Below w1.heap.size w1 w4:=by rw [hw4];exact Gr.alloc (Gr.new _ _) _
 have hq4:w4.heap[w1.heap.size+1]?=some (.cells #[.int .u64 5,.int .u64 0] 40 (0,0)):=by
  have:=heap_alloc_new (w1.alloc (.cells #[.slice (some ⟨g,0,none⟩) 2 ec,.slice va vn vc,.int .i64 9,.int .i64 4,.int .i64 0,.int .i64 0,.int .i64 0,.int .i64 13,.int .i64 0] 32)) (.cells #[.int .u64 5,.int .u64 0] 40 (0,0))
  simp only [World.size_alloc] at this
  rw [hw4];exact this
 have hsl4:SlAt w4 (some ⟨w1.heap.size+1,0,none⟩) [5,0].length 1 (u64G [5,0]):=⟨by decide,λj hj=>⟨w1.heap.size+1,0,rfl,blk_lt hq4,λf hf=>by
  have hj':j<2:=hj
  rw [cell_blk hq4]
  have hf0:f=0:=by omega
  subst hf0
  have:j=0∨j=1:=by omega
  rcases this with rfl|rfl<;>rfl⟩⟩
 have SM:=Lib.hid (same_eq [5,0] la (some ⟨w1.heap.size+1,0,none⟩) lc 2 w4 (Hls.out.grown hb4) hsl4)
 have Hw4:=Lib.hid hw4;have Hb4:=Lib.hid hb4
 clear hw4 hb4 hq4 hsl4
 clear hrep hev hb hen hvn hls hls' e6
 unfold repV
 go_wp2_with fail
 rw [<-Hw4.out]
 refine SM.out.mono ?_
 rintro e w5 ⟨rfl,hb5⟩
 go_wp2
 go_ret
 exact⟨rfl,Gr.trans Hga.out (Gr.trans Hb.out (Gr.trans Hb4.out hb5))⟩
end
section

/- What Between asks of a report, in plain numbers. -/
open Go.RowKit
def bD (calls:List CallD) (iv:Nat) (y:EvD):Bool:=decide (y.ans.err=0) && decide ((calls.getD y.call d0).obj=0) && decide ((calls.getD y.call d0).kind=0) && decide (y.resp≠0) && decide (y.resp<iv)
def bB (calls:List CallD) (rs:Nat) (y:EvD):Bool:=decide (y.ans.err=0) && decide ((calls.getD y.call d0).obj=0) && decide ((calls.getD y.call d0).kind=0) && decide (y.inv<rs)
structure BetGood (calls:List CallD) (evs:List EvD):Prop where
 call:∀ i,i<evs.length->(evAt evs i).call<calls.length
 reads:∀ i,i<evs.length->(calls.getD (evAt evs i).call d0).obj=0->(calls.getD (evAt evs i).call d0).kind=1->(evAt evs i).resp≠0->(evAt evs i).ans.err=0->
  (∀ j,j<evs.length->(evAt evs j).ans.err=0->(calls.getD (evAt evs j).call d0).obj=0->(calls.getD (evAt evs j).call d0).kind=1->(evAt evs j).resp≠0->(evAt evs j).resp<(evAt evs i).inv->(evAt evs j).ans.val<=(evAt evs i).ans.val)/\
  cnt (bD calls (evAt evs i).inv) evs<=(evAt evs i).ans.val/\(evAt evs i).ans.val<=cnt (bB calls (evAt evs i).resp) evs
end
section

/- The walk of SnapSteps. -/
open Go.RowKit
set_option maxHeartbeats 16000000 in
theorem snapSteps_any (q0 q1:Int) (calls:List CallD) (picks:List Int) (ca pa:Option Addr) (cc pc:Nat) (w:World) (hc:CallsAt noB w ca calls) (hp:PicksAt w pa picks) :
  Calls Try.prog 9 #[.agg #[.int .i64 q0,.int .i64 q1],.slice ca calls.length cc,.slice pa picks.length pc] w λe w'=>e=.returned (.bool true)/\Below w.heap.size w w':=by
 have hgb:Below w.heap.size w (w.alloc (.cells #[.int .i64 q0,.int .i64 q1] 22)):=(Gr.new _ _)
 have M:=many_any ca pa calls.length picks.length cc pc (w.alloc (.cells #[.int .i64 q0,.int .i64 q1] 22)) (hc.grown hgb).sl.1 hp.sl.1
 have T:=Lib.hid snap_five
 cases hM:manyB calls.length picks.length with
 | true=>
  rw [hM] at M
  have HM:=Lib.hid M;have Hgb:=Lib.hid hgb
  clear M hc hp hM hgb
  go_enter Try.func9,Try.ntmps9
  go_wp2_with (first|(go_at_call 13;refine(HM.out).mono ?_;rintro e w' ⟨rfl,rfl⟩)|(go_at_call 22;refine(T.out _).mono ?_;rintro e w' ⟨rfl,hb⟩))
  go_ret
  exact⟨rfl,Gr.trans Hgb.out hb⟩
 | false=>
  rw [hM] at M
  have HM:=Lib.hid M
  have P:=snapPlay_safe noB (w.alloc (.cells #[.int .i64 q0,.int .i64 q1] 22)) q0 q1 calls picks ca pa cc pc (λb hb=>hb.elim) (hc.grown hgb) (hp.grown hgb)
  obtain⟨er,her⟩:∃ er,er=snCheck q0 q1 calls picks.length:=⟨_,rfl⟩
  rw [<-her] at P
  have HP:=Lib.hid P;have Her:=Lib.hid her;have Hc:=Lib.hid hc;have Hgb:=Lib.hid hgb
  have hcm:=hc.sl.1
  unfold maxLen at hcm
  clear M P hc hp hM her hgb
  by_cases her0:er=0
  ·have hck:snCheck q0 q1 calls picks.length=0:=by rw [<-Her.out];exact her0
   obtain⟨hck0,hm1,hm2⟩:=snCheck_zero hck
   obtain⟨z1,z2⟩:=n_ok hck0
   obtain⟨n,rfl⟩:∃ n:Nat,q0=(n:Int):=⟨q0.toNat,by omega⟩
   obtain⟨m,rfl⟩:∃ m:Nat,q1=(m:Int):=⟨q1.toNat,by omega⟩
   simp only [Int.toNat_natCast] at HP
   have hmp:0<m:=by omega
   have hnp:=np_ok hck0
   have q1:SnGood n m calls (playD (snapS n m) snO0 (List.replicate (snSize n m) 0) calls picks).evs:=(sn_report (by omega) hck0).2
   have q2:(playD (snapS n m) snO0 (List.replicate (snSize n m) 0) calls picks).evs.length<=picks.length:=(sn_report (by omega) hck0).1
   subst her0
   obtain⟨rr,hrr⟩:∃ rr,rr=playD (snapS n m) snO0 (List.replicate (snSize n m) 0) calls picks:=⟨_,rfl⟩
   rw [<-hrr] at HP q1 q2
   have Hq1:=Lib.hid q1;have Hq2:=Lib.hid q2;have Hnp:=Lib.hid hnp
   clear hck hck0 hrr Her hnp q1 q2
   go_enter Try.func9,Try.ntmps9
   go_wp2_with (go_at_call 13;refine(HM.out).mono ?_;rintro e w' ⟨rfl,rfl⟩)
   refine HP.out.mono ?_
   rintro e w1 ⟨ea,en,ec,va,vn,vc,rp,rfl,hb1,hr⟩
   rcases hr with⟨h0,_⟩|⟨_,hrp,hen,hvn,ers,hrep⟩
   ·exact absurd rfl h0
   subst hrp
   obtain⟨w2,hw2⟩:∃ w2,w2=w1.alloc (.cells #[.slice ea en ec,.slice va vn vc,.int .i64 (rp.c.read:Int),.int .i64 (rp.c.write:Int),.int .i64 (rp.c.swap:Int),.int .i64 (rp.c.add:Int),.int .i64 (rp.c.fault:Int),.int .i64 (rp.ticks:Int),.int .i64 (rp.idle:Int)] 32):=⟨_,rfl⟩
   have hb2:Below w1.heap.size w1 w2:=by rw [hw2];exact Gr.new _ _
   have hin:RepIn w1 w2 w1.heap.size ea en ec va vn vc rp:=⟨Nat.le_refl _,by rw [hw2];exact heap_alloc_new _ _⟩
   have hb02:=Gr.trans Hgb.out (Gr.trans hb1 hb2)
   have hlt2:w1.heap.size<w2.heap.size:=blk_lt hin.blk
   have p0:w2.cell? ⟨w.heap.size,0,none⟩=some (.int .i64 (n:Int)):=((Gr.trans hb1 hb2).cell (p:=⟨w.heap.size,0,none⟩) (by simp)).trans (by rw [cell_blk (heap_alloc_new w _)];rfl)
   have p1:w2.cell? ⟨w.heap.size,1,none⟩=some (.int .i64 (m:Int)):=((Gr.trans hb1 hb2).cell (p:=⟨w.heap.size,1,none⟩) (by simp)).trans (by rw [cell_blk (heap_alloc_new w _)];rfl)
   have hlen:rp.evs.length<1000000:=by have:=Hq2.out;have:=Hnp.out;omega
   have henl:en<=1000000:=by omega
   have hrep2:=hrep.grown hb2
   have Hrep:=Lib.hid hrep2;have Hen:=Lib.hid hen;have Hin:=Lib.hid hin;have Hb02:=Lib.hid hb02;have Hw2:=Lib.hid hw2
   have hc2:=Hc.out.grown hb02
   have Hc2:=Lib.hid hc2
   have A0:=Lib.hid (hin.cell 0)
   have Hlt0:=Lib.hid hlt2
   have P0:=Lib.hid p0;have P1:=Lib.hid p1
   have Lw:=Lib.hid (show w.heap.size<w2.heap.size from World.block_lt_of_cell? _ _ p0)
   have r0:w2.cell? ⟨w1.heap.size,0,none⟩=some (.slice ea en ec):=hin.cell 0
   clear hrep hrep2 hb1 hb2 hin hb02 hw2 hvn hen hc2 p1 hlt2
   unfold repV
   go_upto_region 4 with fail
   rw [<-Hw2.out]
   go_wp2_with fail
   clear r0 p0
   obtain⟨wa,hwa⟩:∃ wa,wa=w2:=⟨_,rfl⟩
   go_loopw [38] (λi wr=>∃ k:Nat,k<=en/\i=.int .i64 k/\Below w2.heap.size w2 wr) (λi _=>en - (intOf i).toNat)
   case atStart=>exact⟨0,Nat.zero_le _,rfl,Gr.refl _⟩
   case round=>
    obtain⟨k,hk,rfl,hb⟩:=hrel
    obtain⟨wo,rfl⟩:∃ wo,wo=wr:=⟨_,rfl⟩
    have b0:wo.cell? ⟨w1.heap.size,0,none⟩=some (.slice ea en ec):=(hb.cell Hlt0.out).trans A0.out
    have hbw:w1.heap.size<wo.heap.size:=Nat.lt_of_lt_of_le Hlt0.out hb.size
    by_cases hlt:k<en
    ·obtain⟨g,la,lc,ka,kc,rfl,hgl,e0,e1,e2,e3,e4,e5,e6,e7,hls,hks,hknil⟩:=Hrep.out.ev8 Hen.out hlt hb
     have hkl:k<rp.evs.length:=by rw [<-Hen.out];exact hlt
     have hcall:=Hq1.out.call k hkl
     have hX1:=Hq1.out.steps k hkl
     obtain⟨E,hE⟩:∃ E,E=evAt rp.evs k:=⟨_,rfl⟩
     rw [<-hE] at e0 e1 e2 e3 e4 e5 e6 e7 hcall hX1 hls
     obtain⟨cI,iv,rs,st,⟨er,vl,li⟩,ky⟩:=E
     unfold kindOf at hX1
     simp only at e0 e1 e2 e3 e4 e5 e6 e7 hcall hX1 hls
     obtain⟨ln,hln⟩:∃ ln,ln=li.length:=⟨_,rfl⟩
     obtain⟨kn,hkn⟩:∃ kn,kn=ky.length:=⟨_,rfl⟩
     rw [<-hln] at e6
     rw [<-hkn] at e7
     obtain⟨b9,off,rfl,y0,y1,y2,y3,y4,y5⟩:=call_at Hc2.out.sl hcall hb
     have hb9:=World.block_lt_of_cell? _ _ y0
     obtain⟨C,hC⟩:∃ C,C=calls.getD cI Proofs.Ytlepjmnhekeofaa.d0:=⟨_,rfl⟩
     rw [<-hC] at y0 y1 y2 y3 y4 y5 hX1
     obtain⟨th,ob,kd,ca1,cb1,cc1⟩:=C
     simp only at y0 y1 y2 y3 y4 y5 hX1 hb9
     have l1:(k:Int)<(en:Int):=by omega
     have l2:(cI:Int)<(calls.length:Int):=by omega
     have l4:(0:Int)<=(cI:Int):=by omega
     have l6:¬ (cI:Int)<0:=by omega
     have l7:¬ (calls.length:Int)<=(cI:Int):=by omega
     have Hb:=Lib.hid hb
     have hn16:n<=16:=by omega
     obtain⟨n2,hn2⟩:∃ n2,n2=n*(n+2):=⟨_,rfl⟩
     have hn2l:n2<=1000:=by
      have:n*(n+2)<=16*18:=Nat.mul_le_mul (by omega) (by omega)
      omega
     have e22:(n:Int)*((n:Int)+2)=(n2:Int):=by rw [hn2];simp
     have e23:(n+1)*n+n=n2:=by rw [hn2,Nat.succ_mul,Nat.mul_add];omega
     rw [e23] at hX1
     have g1:IntKind.i64.wrap ((n:Int)+2)=(n:Int)+2:=by rw [IntKind.wrap_i64];omega
     have g2:IntKind.i64.wrap ((n:Int)*((n:Int)+2))=(n2:Int):=by rw [e22,IntKind.wrap_i64];omega
     have g3:IntKind.i64.wrap ((n2:Int)+(n:Int))=(n2:Int)+(n:Int):=by rw [IntKind.wrap_i64];omega
     have g6:IntKind.i64.wrap ((n2:Int)+(n:Int)+2)=(n2:Int)+(n:Int)+2:=by rw [IntKind.wrap_i64];omega
     have g4:¬ (n2:Int)+(n:Int)+2<(st:Int):=by have:=hX1.1;omega
     have g5:kd=1->¬ (n2:Int)<(st:Int):=λe=>by have:=hX1.2 e;omega
     have G5:=Lib.hid g5
     clear hn2 hn2l e22 e23 hX1 g5 hls hln hn16
     clear hks hknil hE hC hb hcall hkn
     obtain⟨w4,hw4⟩:∃ w4,w4=wo.alloc (.cells #[.int .i64 (cI:Int),.int .i64 (iv:Int),.int .i64 (rs:Int),.int .i64 (st:Int),.int .i64 er,.int .u64 (vl:Int),.slice la ln lc,.slice ka kn kc] 44):=⟨_,rfl⟩
     have hb4:Below wo.heap.size wo w4:=by rw [hw4];exact Gr.new _ _
     have hx2:w4.heap[wo.heap.size]?=some (.cells #[.int .i64 (cI:Int),.int .i64 (iv:Int),.int .i64 (rs:Int),.int .i64 (st:Int),.int .i64 er,.int .u64 (vl:Int),.slice la ln lc,.slice ka kn kc] 44 (0,0)):=by rw [hw4];exact heap_alloc_new _ _
     have Hw4:=Lib.hid hw4;have Hb2:=Lib.hid (Gr.trans Hb.out hb4);have Hx2:=Lib.hid hx2
     have z0:w4.cell? ⟨w1.heap.size,0,none⟩=some (.slice (some ⟨g,0,none⟩) en ec):=(hb4.cell hbw).trans b0
     have x0:w4.cell? ⟨wo.heap.size,0,none⟩=some (.int .i64 (cI:Int)):=by rw [cell_blk hx2];rfl
     have x3:w4.cell? ⟨wo.heap.size,3,none⟩=some (.int .i64 (st:Int)):=by rw [cell_blk hx2];rfl
     have k2:=(hb4.cell (World.block_lt_of_cell? _ _ y2)).trans y2
     clear hw4 hb4 hx2
     go_upto_region 11 with fail
     rw [<-Hw4.out]
     clear e0 e1 e2 e3 e4 e5 e6 e7 y0 y1 y2 y3 y4 y5 b0 hbw hgl hb9 z0
     by_cases hk1:kd=1
     ·have g5:=G5.out hk1
      subst hk1
      go_wp2
      go_roundw
      case rel=>exact⟨k+1,by omega,by go_num,Hb2.out⟩
      case measure=>simp [intOf]<;>omega
     ·have q1:(kd == 1)=false:=by simpa using hk1
      go_wp2
      go_roundw
      case rel=>exact⟨k+1,by omega,by go_num,Hb2.out⟩
      case measure=>simp [intOf]<;>omega
    ·have l1:¬ (k:Int)<(en:Int):=by omega
     have Hb:=Lib.hid hb
     clear hb b0 hbw
     go_wp2_with (go_at_call 22;refine(T.out _).mono ?_;rintro e w' ⟨rfl,hbs⟩)
     go_ret
     exact⟨rfl,Gr.trans Hb02.out (Gr.trans Hb.out hbs)⟩
  ·have hn0:¬ er=0:=her0
   have Hn0:=Lib.hid her0
   go_enter Try.func9,Try.ntmps9
   go_wp2_with (go_at_call 13;refine(HM.out).mono ?_;rintro e w' ⟨rfl,rfl⟩)
   refine HP.out.mono ?_
   rintro e w1 ⟨ea,en,ec,va,vn,vc,rp,rfl,hb1,hr⟩
   rcases hr with⟨_,rfl,rfl,rfl,rfl,rfl,rfl,rfl⟩|⟨h0,_⟩
   ·unfold repV
    have N:=Lib.hid none_true
    go_wp2_with (first|(go_at_call 16;refine(N.out _).mono ?_;rintro e w2 ⟨rfl,hb2⟩)|(go_at_call 22;refine(T.out _).mono ?_;rintro e w' ⟨rfl,hb⟩))
    go_ret
    exact⟨rfl,Gr.trans Hgb.out (Gr.trans hb1 (Gr.trans (Gr.new _ _) (Gr.trans hb2 hb)))⟩
   ·exact absurd h0 her0
end
end Go.Proofs.Ytlepjmnhekeofaa
