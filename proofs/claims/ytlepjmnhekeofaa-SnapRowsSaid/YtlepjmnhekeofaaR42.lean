/- A report's events, as the laws' checks meet them. -/
import Derived.Test.YtlepjmnhekeofaaR21
import Derived.Test.YtlepjmnhekeofaaR40
set_option maxRecDepth 100000
set_option linter.unusedVariables false
set_option linter.unusedSimpArgs false
set_option linter.unnecessarySimpa false
namespace Go.Proofs.Ytlepjmnhekeofaa
section
open Go.RowKit
theorem RepAt.ev8 {X:Nat->Prop} {B:Nat} {w wr:World} {ea:Option Addr} {en ec:Nat} {wv:Value} {ers:List (Value×Value)} {r:RepD} (h:RepAt X B w (.slice ea en ec) wv ers r) (hn:en=r.evs.length) {k:Nat} (hk:k<en) (hb:Below w.heap.size w wr) :
  ∃ g la lc ka kc,ea=some ⟨g,0,none⟩/\g<wr.heap.size/\
   wr.cell? ⟨g,k*8,none⟩=some (.int .i64 ((evAt r.evs k).call:Int))/\wr.cell? ⟨g,k*8+1,none⟩=some (.int .i64 ((evAt r.evs k).inv:Int))/\wr.cell? ⟨g,k*8+2,none⟩=some (.int .i64 ((evAt r.evs k).resp:Int))/\wr.cell? ⟨g,k*8+3,none⟩=some (.int .i64 ((evAt r.evs k).steps:Int))/\
   wr.cell? ⟨g,k*8+4,none⟩=some (.int .i64 (evAt r.evs k).ans.err)/\wr.cell? ⟨g,k*8+5,none⟩=some (.int .u64 ((evAt r.evs k).ans.val:Int))/\wr.cell? ⟨g,k*8+6,none⟩=some (.slice la (evAt r.evs k).ans.list.length lc)/\wr.cell? ⟨g,k*8+7,none⟩=some (.slice ka (evAt r.evs k).key.length kc)/\
   SlAt wr la (evAt r.evs k).ans.list.length 1 (u64G (evAt r.evs k).ans.list)/\SlAt wr ka (evAt r.evs k).key.length 1 (intG (evAt r.evs k).key)/\((evAt r.evs k).key=[]->ka=none/\kc=0):=by
 obtain⟨g,rfl,hg,hev⟩:=h.event hn (by omega)
 have hans:=h.ans k (by rw [<-hn];exact hk)
 obtain⟨V,hV⟩:∃ V,V=ers.getD k vv0:=⟨_,rfl⟩
 rw [<-hV] at hans
 obtain⟨⟨la,lc,hlv,hls,_⟩,⟨ka,kc,hkv,hkn,hks,_⟩⟩:=hans
 have hcells:∀ f,f<8->wr.cell? ⟨g,k*8+f,none⟩=(evCells (evAt r.evs k) V)[f]?:=λf hf=>by rw [hb.cell hg,hev k f hk hf,hV];rfl
 refine⟨g,la,lc,ka,kc,rfl,Nat.lt_of_lt_of_le hg hb.size,hcells 0 (by omega),hcells 1 (by omega),hcells 2 (by omega),hcells 3 (by omega),hcells 4 (by omega),hcells 5 (by omega),?_,?_,hls.grown hb,hks.grown hb,λh0=>?_⟩
 ·rw [hcells 6 (by omega)];exact congrArg some hlv
 ·rw [hcells 7 (by omega)];exact congrArg some hkv
 ·have:=hkn h0
  rw [hkv] at this
  simp only [Value.slice.injEq] at this
  exact⟨this.1,this.2.2⟩
end
section

/- Layer 15: a thread that updates, and another one that scans. -/
open Go.RowKit
theorem snapPlay_safe (X:Nat->Prop) (w:World) (n k:Int) (calls:List CallD) (picks:List Int) (ca pa:Option Addr) (cc pc:Nat) (hX:∀ b,X b->b<w.heap.size) (hc:CallsAt X w ca calls) (hp:PicksAt w pa picks) :
  Calls Try.prog 23 #[.int .i64 n,.int .i64 k,.slice ca calls.length cc,.slice pa picks.length pc] w λe w'=>PlayRet X w w' (snCheck n k calls picks.length) (playD (snapS n.toNat k.toNat) snO0 (List.replicate (snSize n.toNat k.toNat) 0) calls picks) e:=by
 refine snapPlay_any X w n k calls picks ca pa cc pc hX hc hp (λh0 h1 h2=>?_)
 have hn:=n_ok h0
 exact sn_safe (by omega) (by rw [show((n.toNat:Nat):Int)=n by omega];exact h0)
def fiveCalls15:List CallD:=[⟨0,0,0,5,0,0⟩,⟨1,0,1,0,0,0⟩]
theorem five_rep15:playD (snapS 2 1) snO0 (List.replicate (snSize 2 1) 0) fiveCalls15 [0,0,0,0,0,0,0,0,1,1,1,1,1]=⟨[⟨0,1,8,8,⟨0,0,[]⟩,[16]⟩,⟨1,9,13,5,⟨0,0,[5,0]⟩,[20,26]⟩],[2,0,5,0,0,0,0,0],⟨9,4,0,0,0⟩,13,0⟩:=by kernel_rfl
theorem five_check15:snCheck 2 1 fiveCalls15 13=0:=by rfl
set_option maxHeartbeats 4000000 in
theorem snap_five (w:World):Calls Try.prog 22 #[] w λe w'=>e=.returned (.bool true)/\Below w.heap.size w w':=by
 obtain⟨wa,hwa⟩:∃ wa,wa=(w.alloc (.cells #[.int .i64 0,.int .i64 0,.int .i64 0,.int .u64 5,.int .u64 0,.int .u64 0,.int .i64 1,.int .i64 0,.int .i64 1,.int .u64 0,.int .u64 0,.int .u64 0] 46)).alloc (.cells #[.int .i64 0,.int .i64 0,.int .i64 0,.int .i64 0,.int .i64 0,.int .i64 0,.int .i64 0,.int .i64 0,.int .i64 1,.int .i64 1,.int .i64 1,.int .i64 1,.int .i64 1] 3):=⟨_,rfl⟩
 have hga:Below w.heap.size w wa:=by rw [hwa];exact Gr.alloc (Gr.new _ _) _
 have h1:wa.heap[w.heap.size]?=some (.cells (fiveCalls15.flatMap callL).toArray 46 (0,0)):=by rw [hwa,Below.heap_alloc _ _ _ (by simp),heap_alloc_new];rfl
 have h2:wa.heap[w.heap.size+1]?=some (.cells (([0,0,0,0,0,0,0,0,1,1,1,1,1]:List Int).map (Value.int .i64)).toArray 3 (0,0)):=by
  rw [hwa]
  have:=heap_alloc_new (w.alloc (.cells #[.int .i64 0,.int .i64 0,.int .i64 0,.int .u64 5,.int .u64 0,.int .u64 0,.int .i64 1,.int .i64 0,.int .i64 1,.int .u64 0,.int .u64 0,.int .u64 0] 46)) (.cells #[.int .i64 0,.int .i64 0,.int .i64 0,.int .i64 0,.int .i64 0,.int .i64 0,.int .i64 0,.int .i64 0,.int .i64 1,.int .i64 1,.int .i64 1,.int .i64 1,.int .i64 1] 3 (0,0))
  simp only [World.size_alloc] at this
  exact this
 have P:=snapPlay_safe noB wa 2 1 fiveCalls15 [0,0,0,0,0,0,0,0,1,1,1,1,1] (some ⟨w.heap.size,0,none⟩) (some ⟨w.heap.size+1,0,none⟩) 2 13 (λb hb=>hb.elim) ⟨calls_block h1 (by decide),(by
   intro x hx
   simp only [fiveCalls15,List.mem_cons,List.not_mem_nil,or_false] at hx
   rcases hx with rfl|rfl<;>exact callOk_small (by decide) (by decide) (by decide) (by decide) (by decide) (by decide) (by decide)),λ_ _ _ _ h=>h⟩ ⟨ints_block h2 (by decide),by intro x hx;simp only [List.mem_cons,List.not_mem_nil,or_false] at hx;rcases hx with rfl|rfl|rfl|rfl|rfl|rfl|rfl|rfl|rfl|rfl|rfl|rfl|rfl<;>rfl⟩
 rw [show([0,0,0,0,0,0,0,0,1,1,1,1,1]:List Int).length=13 from rfl,five_check15,show(2:Int).toNat=2 from rfl,show(1:Int).toNat=1 from rfl,five_rep15,show fiveCalls15.length=2 from rfl] at P
 have HP:=Lib.hid P;have Hwa:=Lib.hid hwa;have Hga:=Lib.hid hga
 clear P h1 h2 hwa hga
 go_enter Try.func22,Try.ntmps22
 go_wp2_with fail
 rw [<-Hwa.out]
 refine HP.out.mono ?_
 rintro e w1 ⟨ea,en,ec,va,vn,vc,rp,rfl,hb,hr⟩
 rcases hr with⟨h0,_⟩|⟨_,hrp,hen,hvn,ers,hrep⟩
 ·exact absurd rfl h0
 subst hrp
 obtain⟨g,la,lc,ka,kc,rfl,hg,_,_,_,_,_,_,e6,_,hls,_,_⟩:=hrep.ev8 hen (k:=1) (by rw [hen];decide) (Gr.refl _)
 obtain⟨g2,hgg,_,hev⟩:=hrep.event hen (by rw [hen];decide)
 cases hgg
 have hen2:en=2:=hen
 subst hen2
 have c14:w1.cell? ⟨g,14,none⟩=some (.slice la 2 lc):=e6
 have hls':SlAt w1 la [5,0].length 1 (u64G [5,0]):=hls
 have c2:w1.cell? ⟨g,2,none⟩=some (.int .i64 8):=hev 0 2 (by omega) (by omega)
 have c10:w1.cell? ⟨g,10,none⟩=some (.int .i64 13):=hev 1 2 (by omega) (by omega)
 have Hb:=Lib.hid hb;have Hls:=Lib.hid hls'
 obtain⟨w4,hw4⟩:∃ w4,w4=(w1.alloc (.cells #[.slice (some ⟨g,0,none⟩) 2 ec,.slice va vn vc,.int .i64 9,.int .i64 4,.int .i64 0,.int .i64 0,.int .i64 0,.int .i64 13,.int .i64 0] 32)).alloc (.cells #[.int .u64 5,.int .u64 0] 40):=⟨_,rfl⟩
 have hb4:Below w1.heap.size w1 w4:=by rw [hw4];exact Gr.alloc (Gr.new _ _) _
 have hq4:w4.heap[w1.heap.size+1]?=some (.cells #[.int .u64 5,.int .u64 0] 40 (0,0)):=by
  have:=heap_alloc_new (w1.alloc (.cells #[.slice (some ⟨g,0,none⟩) 2 ec,.slice va vn vc,.int .i64 9,.int .i64 4,.int .i64 0,.int .i64 0,.int .i64 0,.int .i64 13,.int .i64 0] 32)) (.cells #[.int .u64 5,.int .u64 0] 40 (0,0))
  simp only [World.size_alloc] at this
  rw [hw4];exact this
 have hsl4:SlAt w4 (some ⟨w1.heap.size+1,0,none⟩) [5,0].length 1 (u64G [5,0]):=⟨by decide,λj hj=>⟨w1.heap.size+1,0,rfl,blk_lt hq4,λf hf=>by
  have hj':j<2:=hj
  rw [cell_blk hq4]
  have hf0:f=0:=by omega
  subst hf0
  have:j=0∨j=1:=by omega
  rcases this with rfl|rfl<;>rfl⟩⟩
 have SM:=Lib.hid (same_eq [5,0] la (some ⟨w1.heap.size+1,0,none⟩) lc 2 w4 (Hls.out.grown hb4) hsl4)
 have Hw4:=Lib.hid hw4;have Hb4:=Lib.hid hb4
 clear hw4 hb4 hq4 hsl4
 clear hrep hev hb hen hvn hls hls' e6
 unfold repV
 go_wp2_with fail
 rw [<-Hw4.out]
 refine SM.out.mono ?_
 rintro e w5 ⟨rfl,hb5⟩
 go_wp2
 go_ret
 exact⟨rfl,Gr.trans Hga.out (Gr.trans Hb.out (Gr.trans Hb4.out hb5))⟩
end
section

/- Layer 9: the walk of AdderTickets. -/
open Go.RowKit
theorem call_info:(Try.prog.info? 46).map (λi=>(i.zero,i.size,i.bytes))=some (some (.agg #[.int .i64 0,.int .i64 0,.int .i64 0,.int .u64 0,.int .u64 0,.int .u64 0]),6,48):=by kernel_rfl
theorem row_calls {w:World} {B:Nat} {ca:Option Addr} {cc:Nat} {l:List CallD} (h:w.ownsRow B 46 6 (.slice ca l.length cc) l.length (l.flatMap callL)) (hl:l.length<=1000000):SlAt w ca l.length 6 (callG l):=by
 rcases Nat.eq_zero_or_pos l.length with h0|h0
 ·rw [h0];exact SlAt.nil _ _ _ _
 ·obtain⟨g,c,h1,h2,h3⟩:=h.form h0
  simp only [Value.slice.injEq,true_and] at h1
  obtain⟨rfl,rfl⟩:=h1
  refine⟨by unfold maxLen;omega,λj hj=>⟨g,0,rfl,h3,λf hf=>?_⟩⟩
  rw [Nat.zero_add,h.cellAt _ (by omega)]
  exact callL_get l j f hj hf
theorem news_six (w:World) (c:List Value) (T:TypeId) (j:Nat) (u:Value) (h:c[j]?=some u):(w.alloc (.cells c.toArray T)).cell? ((⟨w.heap.size,0,none⟩:Addr).add j)=some u:=by
 rw [Addr.add_mid,Nat.zero_add,cell_new];simpa using h
end
end Go.Proofs.Ytlepjmnhekeofaa
