/- A max register in the reference's play: the way down of one that writes. -/
import Derived.Test.YteffgpcjfnjlkaaGreatX38
set_option maxRecDepth 100000
set_option linter.unusedVariables false
set_option linter.unusedSimpArgs false
set_option linter.unnecessarySimpa false
namespace Go.Proofs.YteffgpcjfnjlkaaGreat
section
open Go.RowKit
variable {B:RBase} {w w':World} {t:TapeP} {r:RWD}
def WyX (R:Prop) (bR bY:Nat) (tv:Value) (b:Nat):Prop:=(R/\b=bR)∨b=bY∨tv.ownBlock=some b
structure WyAt (R:Prop) (u:World) (bR bY:Nat) (tv:Value) (ts:List (Nat×Bool)) (last:Int) (val:Nat):Prop where
 ne:R->bR≠bY
 res:R->u.heap[bR]?=some (.cells #[.slice none 0 0,.int .i64 0,.int .u64 0] 175 (0,0))
 blk:u.heap[bY]?=some (.cells #[tv,.int .i64 last,.int .u64 (val:Int)] 175 (0,0))
 row:u.ownsRow 0 3 1 tv ts.length ((tnI ts).map (Value.int .i64))
theorem WyAt.keep {R:Prop} {u u':World} {bR bY:Nat} {tv:Value} {ts:List (Nat×Bool)} {last:Int} {val:Nat} (h:WyAt R u bR bY tv ts last val) (hs:u.heap.size<=u'.heap.size) (hk:∀ b,WyX R bR bY tv b->u'.heap[b]?=u.heap[b]?):WyAt R u' bR bY tv ts last val:=by
 refine⟨h.ne,λz=>(hk _ (.inl ⟨z,rfl⟩)).trans (h.res z),(hk _ (.inr (.inl rfl))).trans h.blk,?_⟩
 obtain⟨h1,h2⟩:=h.row
 refine⟨h1,?_⟩
 rcases h2 with h2|⟨g,cap,cur,hv,hg,hh,q⟩
 ·exact .inl h2
 ·exact .inr ⟨g,cap,cur,hv,hg,(hk g (.inr (.inr (by rw [hv];rfl)))).trans hh,q⟩
theorem WyAt.grown {R:Prop} {u u':World} {bR bY:Nat} {tv:Value} {ts:List (Nat×Bool)} {last:Int} {val:Nat} (h:WyAt R u bR bY tv ts last val) (hb:Below u.heap.size u u'):WyAt R u' bR bY tv ts last val:=
 ⟨h.ne,λz=>(hb.block _ (blk_lt (h.res z))).trans (h.res z),(hb.block _ (blk_lt h.blk)).trans h.blk,row_below h.row hb⟩
theorem blk_ty {u:World} {b:Nat} {c1 c2:Array Value} {T1 T2:TypeId} {f1 f2:Nat×Nat} (h1:u.heap[b]?=some (.cells c1 T1 f1)) (h2:u.heap[b]?=some (.cells c2 T2 f2)):T1=T2:=by
 rw [h1] at h2
 simp only [Option.some.injEq,Obj.cells.injEq] at h2
 exact h2.2.1
theorem wy_last {R:Prop} {u:World} {bR bY:Nat} {tv:Value} {ts:List (Nat×Bool)} {last:Int} {val:Nat} (h:WyAt R u bR bY tv ts last val) (ht:RAtO B u t r (WyX R bR bY tv)) (l:Int):WyAt R (u.setCell ⟨bY,1,none⟩ (.int .i64 l)) bR bY tv ts l val/\RAtO B (u.setCell ⟨bY,1,none⟩ (.int .i64 l)) t r (WyX R bR bY tv):=by
 have hY:∀ q,tv.ownBlock=some q->q≠bY:=λq hq e=>by
  obtain⟨cs,fz,h9⟩:=row_type h.row hq
  exact absurd (blk_ty (e ▸ h9) h.blk) (by decide)
 refine⟨⟨h.ne,λz=>(Below.heap_setCell _ _ _ _ (h.ne z)).trans (h.res z),by rw [blk_set h.blk];rfl,row_chg h.row (Chg.setCell (S:=λq=>q=bY) (Chg.refl _ _) (.inl rfl) _) (λq hq e=>hY q hq e)⟩,ht.turn (Chg.setCell (Chg.refl _ _) (.inl (.inr (.inl rfl))) _) (λ_ e=>.inl e)⟩
theorem wy_val {R:Prop} {u:World} {bR bY:Nat} {tv:Value} {ts:List (Nat×Bool)} {last:Int} {val:Nat} (h:WyAt R u bR bY tv ts last val) (ht:RAtO B u t r (WyX R bR bY tv)) (l:Nat):WyAt R (u.setCell ⟨bY,2,none⟩ (.int .u64 (l:Int))) bR bY tv ts last l/\RAtO B (u.setCell ⟨bY,2,none⟩ (.int .u64 (l:Int))) t r (WyX R bR bY tv):=by
 have hY:∀ q,tv.ownBlock=some q->q≠bY:=λq hq e=>by
  obtain⟨cs,fz,h9⟩:=row_type h.row hq
  exact absurd (blk_ty (e ▸ h9) h.blk) (by decide)
 refine⟨⟨h.ne,λz=>(Below.heap_setCell _ _ _ _ (h.ne z)).trans (h.res z),by rw [blk_set h.blk];rfl,row_chg h.row (Chg.setCell (S:=λq=>q=bY) (Chg.refl _ _) (.inl rfl) _) (λq hq e=>hY q hq e)⟩,ht.turn (Chg.setCell (Chg.refl _ _) (.inl (.inr (.inl rfl))) _) (λ_ e=>.inl e)⟩
theorem wy_turn {R:Prop} {u u1:World} {bR bY:Nat} {tv:Value} {ts:List (Nat×Bool)} {last:Int} {val:Nat} (h:WyAt R u bR bY tv ts last val) (ht:RAtO B u t r (WyX R bR bY tv)) {x:Value} (k:Nat) (d:Bool) {g vc M:Nat} (hM:M=ts.length+1) (hx:u1=u.alloc (.cells #[x] 3)) {u2:World}
  (hown:u2.ownsRow 0 3 1 (.slice (some ⟨g,0,none⟩) M vc) M ((tnI ts++[if d=true then -(k:Int) else (k:Int)]).map (Value.int .i64))) (hc:Chg (λb=>tv.ownBlock=some b) u1 u2) (hat:tv.ownBlock=some g∨g=u1.heap.size) (hg:g<u2.heap.size):u2.cell? ⟨bY,0,none⟩=some tv/\u2.frozen? ⟨bY,0,none⟩=false/\
  WyAt R (u2.setCell ⟨bY,0,none⟩ (.slice (some ⟨g,0,none⟩) M vc)) bR bY (.slice (some ⟨g,0,none⟩) M vc) (ts++[(k,d)]) last val/\RAtO B (u2.setCell ⟨bY,0,none⟩ (.slice (some ⟨g,0,none⟩) M vc)) t r (WyX R bR bY (.slice (some ⟨g,0,none⟩) M vc)):=by
 have hn:∀ q,tv.ownBlock=some q->q≠bY/\(R->q≠bR):=λq hq=>⟨λe=>by
  obtain⟨cs,fz,h9⟩:=row_type h.row hq
  exact absurd (blk_ty (e ▸ h9) h.blk) (by decide),λz e=>by
  obtain⟨cs,fz,h9⟩:=row_type h.row hq
  exact absurd (blk_ty (e ▸ h9) (h.res z)) (by decide)⟩
 have hlY:=blk_lt h.blk
 have hs1:u.heap.size<=u1.heap.size:=by rw [hx];simp
 have hb1:Below u.heap.size u u1:=by rw [hx];exact Gr.new _ _
 have hc2:Chg (λb=>tv.ownBlock=some b) u u2:=(Chg.of_below hb1).trans hc
 have hY2:u2.heap[bY]?=some (.cells #[tv,.int .i64 last,.int .u64 (val:Int)] 175 (0,0)):=(hc2.block _ hlY (λe=>(hn _ e).1 rfl)).trans h.blk
 have hR2:R->u2.heap[bR]?=_:=λz=>(hc2.block _ (blk_lt (h.res z)) (λe=>(hn _ e).2 z rfl)).trans (h.res z)
 have hgY:g≠bY:=by
  rcases hat with e|e
  ·exact(hn _ e).1
  ·omega
 have hlen:(ts++[(k,d)]).length=M:=by rw [hM,List.length_append,List.length_singleton]
 refine⟨by rw [cell_blk hY2];rfl,frozen_blk hY2 _,⟨h.ne,λz=>(Below.heap_setCell _ _ _ _ (h.ne z)).trans (hR2 z),by rw [blk_set hY2];rfl,?_⟩,ht.turn ((hc2.mono (λ_ _ e=>.inr (.inr e))).setCell (.inl (.inr (.inl rfl))) _) (λb hb=>?_)⟩
 ·rw [hlen,tnI_snoc]
  exact row_chg hown (Chg.setCell (S:=λq=>q=bY) (Chg.refl _ _) (.inl rfl) _) (λq hq e=>hgY (by cases hq;exact e))
 ·have hsz:(u2.setCell ⟨bY,0,none⟩ (.slice (some ⟨g,0,none⟩) M vc)).heap.size=u2.heap.size:=by simp [World.setCell]
  rcases hb with e|e|e
  ·exact .inl (.inl e)
  ·exact .inl (.inr (.inl e))
  ·obtain rfl:g=b:=Option.some.inj e
   rcases hat with e9|e9
   ·exact .inl (.inr (.inr e9))
   ·exact .inr ⟨by omega,by rw [hsz];exact hg⟩
theorem dnRun_halt (b v n k:Nat) (ts:List (Nat×Bool)) (last:Int) (t:TapeP) (r:RWD) (h:t.halt=true):dnRun b v n k ts last t r=((ts,last),t,r):=by
 cases n with
 | zero=>rfl
 | succ n=>unfold dnRun;rw [if_pos h]
def DnPost (B:RBase) (m:Nat) (Z:(List (Nat×Bool)×Int)×TapeP×RWD) (e:Ending) (w':World):Prop:=
 ∃ tv,e=.returned (.agg #[tv,.int .i64 Z.1.2,.int .u64 0])/\RAtO B w' Z.2.1 Z.2.2 (λb=>tv.ownBlock=some b)/\w'.ownsRow 0 3 1 tv Z.1.1.length ((tnI Z.1.1).map (Value.int .i64))/\Z.1.1.length<=m/\∀ x,x∈Z.1.1->1<=x.1/\x.1<=100000
theorem tmod_bit (v n:Nat):((v:Int) / 2^n).tmod 2=((v / 2^n % 2:Nat):Int):=by
 have e:(v:Int) / 2^n=((v / 2^n:Nat):Int):=by simp
 rw [e,Int.tmod_eq_emod_of_nonneg (Int.natCast_nonneg _)]
 omega
theorem way_info:(Tryz.prog.info? 175).map (·.size)=some 3:=by kernel_rfl
theorem down_out {fn:Func} (hfn:fn.results=#[.cell 8 175]) {a:Act} {wr:World} {Z:(List (Nat×Bool)×Int)×TapeP×RWD} {ts:List (Nat×Bool)} {last:Int} {tt:TapeP} {rr:RWD} {bR bY:Nat} {tv:Value} {m:Nat} (hZ:Z=((ts,last),tt,rr)) (hO:RAtO B wr tt rr (WyX True bR bY tv)) (hW:WyAt True wr bR bY tv ts last 0) (hl:ts.length<=m) (hts:∀ x,x∈ts->1<=x.1/\x.1<=100000) (ha:a.tmps.getD 8 undef=.pointer (some ⟨bR,0,none⟩)) (hd:a.defers=[]) :
  bodyPost Tryz.prog fn (λe w'=>DnPost B m Z e w') .ret a (((wr.setCell ⟨bR,0,none⟩ tv).setCell ⟨bR,1,none⟩ (.int .i64 last)).setCell ⟨bR,2,none⟩ (.int .u64 0)):=by
 have h0:=blk_set (hW.res trivial) 0 tv
 have h1:=blk_set h0 1 (.int .i64 last)
 have h2:=blk_set h1 2 (.int .u64 0)
 have hn:∀ q,tv.ownBlock=some q->q≠bR:=λq hq e=>by
  obtain⟨cs,fz,h9⟩:=row_type hW.row hq
  exact absurd (blk_ty (e ▸ h9) (hW.res trivial)) (by decide)
 have hc:Chg (λq=>q=bR) wr (((wr.setCell ⟨bR,0,none⟩ tv).setCell ⟨bR,1,none⟩ (.int .i64 last)).setCell ⟨bR,2,none⟩ (.int .u64 0)):=
  Chg.setCell (S:=λq=>q=bR) (Chg.setCell (S:=λq=>q=bR) (Chg.setCell (S:=λq=>q=bR) (Chg.refl _ _) (.inl rfl) _) (.inl rfl) _) (.inl rfl) _
 refine bodyPost_ret (results_cell_row (P:=Tryz.prog) hfn _ _ bR 175 _ (0,0) _ ha h2 Tryz.underlying175 rfl way_info) hd ⟨tv,?_,?_,?_,by rw [hZ];exact hl,by rw [hZ];exact hts⟩
 ·rw [hZ];rfl
 ·rw [hZ]
  exact hO.turn (hc.mono (λ_ _ e=>.inl ⟨trivial,e⟩)) (λq hq=>.inl (.inr (.inr hq)))
 ·rw [hZ]
  exact row_chg hW.row hc (λq hq e=>hn q hq e)
set_option maxHeartbeats 8000000 in
theorem down_w (h:RAt B w t r) (b:Nat) (hb9:b<=500000) (m:Nat) (hm:m<=12) (v:Nat) (hv:v<18446744073709551616) :
  Calls Tryz.prog 96 #[.pointer (some ⟨B.I.tb,B.I.pre.length,none⟩),.int .i64 (b:Int),.int .i64 (m:Int),.int .u64 (v:Int)] w λe w'=>DnPost B m (dnRun b v m 1 [] (t.inv:Int) t r) e w':=by
 have x2:=h.cInv
 have ltb:=h.lt
 obtain⟨Z,hZ⟩:∃ Z,Z=dnRun b v m 1 [] (t.inv:Int) t r:=⟨_,rfl⟩
 obtain⟨iv,hiv⟩:∃ iv,iv=(t.inv:Int):=⟨_,rfl⟩
 rw [<-hZ]
 rw [<-hiv] at x2 hZ
 obtain⟨wb,hwb⟩:∃ wb,wb=(w.alloc (.cells #[.slice none 0 0,.int .i64 0,.int .u64 0] 175)).alloc (.cells #[.slice none 0 0,.int .i64 iv,.int .u64 0] 175):=⟨_,rfl⟩
 obtain⟨bR,hbR⟩:∃ bR,bR=w.heap.size:=⟨_,rfl⟩
 obtain⟨bY,hbY⟩:∃ bY,bY=w.heap.size+1:=⟨_,rfl⟩
 have hg:Below w.heap.size w wb:=by rw [hwb];exact Gr.alloc (Gr.new _ _) _
 have hR:wb.heap[bR]?=some (.cells #[.slice none 0 0,.int .i64 0,.int .u64 0] 175 (0,0)):=by rw [hwb,hbR,Below.heap_alloc _ _ _ (by simp)];exact heap_alloc_new _ _
 have hY:wb.heap[bY]?=some (.cells #[.slice none 0 0,.int .i64 iv,.int .u64 ((0:Nat):Int)] 175 (0,0)):=by
  have:=heap_alloc_new (w.alloc (.cells #[.slice none 0 0,.int .i64 0,.int .u64 0] 175)) (.cells #[.slice none 0 0,.int .i64 iv,.int .u64 0] 175 (0,0))
  rw [World.size_alloc] at this
  rw [hwb,hbY];exact this
 have hW0:WyAt True wb bR bY (.slice none 0 0) [] iv 0:=⟨λ_=>by omega,λ_=>hR,hY,by exact⟨by decide,.inl ⟨rfl,rfl⟩⟩⟩
 have hO0:RAtO B wb t r (WyX True bR bY (.slice none 0 0)):=h.own hg (λq hq=>by
  have hsz:wb.heap.size=w.heap.size+2:=by rw [hwb];simp
  rcases hq with⟨_,e⟩|e|e
  ·omega
  ·omega
  ·cases e)
 have Hwb:=Lib.hid hwb;have HZ:=Lib.hid hZ;have HW0:=Lib.hid hW0;have HO0:=Lib.hid hO0
 have HbR:=Lib.hid hbR;have HbY:=Lib.hid hbY
 clear h hZ hiv hwb hg hR hY hW0 hO0 hbR hbY
 go_enter Tryz.func96,Tryz.ntmps96
 go_upto_region 4 with fail
 rw [<-Hwb.out,<-HbY.out,<-HbR.out]
 clear Hwb HbR HbY
 go_loopw [10,11] (λkv i wr=>∃(n k:Nat) (ts:List (Nat×Bool)) (last:Int) (tt:TapeP) (rr:RWD) (tv:Value),i=.int .i64 ((n:Int) - 1)/\kv=.int .i64 (k:Int)/\Z=dnRun b v n k ts last tt rr/\RAtO B wr tt rr (WyX True bR bY tv)/\WyAt True wr bR bY tv ts last 0/\ts.length+n=m/\1<=k/\k<2^(ts.length+1)/\∀ x,x∈ts->1<=x.1/\x.1<=100000) (λ_ i _=>(intOf i+1).toNat)
 case atStart=>exact⟨m,1,[],iv,t,r,.slice none 0 0,rfl,rfl,HZ.out,HO0.out,HW0.out,by simp,Nat.le_refl _,by simp,(λx hx=>by cases hx)⟩
 case round=>
  obtain⟨n,k,ts,last,tt,rr,tv,rfl,rfl,hz,hO,hW,hlen,hk1,hk2,hts⟩:=hrel
  obtain⟨ta,tc,rfl⟩:=row_form hW.row
  obtain⟨tn,htn⟩:∃ tn,tn=ts.length:=⟨_,rfl⟩
  rw [<-htn] at hO hW
  have Htn:=Lib.hid htn;have Hlen:=Lib.hid hlen
  have hA:=hO.at
  have x7:=hA.cHalt
  have y0:wr.cell? ⟨bY,0,none⟩=some (.slice ta tn tc):=by rw [cell_blk hW.blk];rfl
  have y1:wr.cell? ⟨bY,1,none⟩=some (.int .i64 last):=by rw [cell_blk hW.blk];rfl
  have y2:wr.cell? ⟨bY,2,none⟩=some (.int .u64 0):=by rw [cell_blk hW.blk];rfl
  have z0:wr.cell? ⟨bR,0,none⟩=some (.slice none 0 0):=by rw [cell_blk (hW.res trivial)];rfl
  have z1:wr.cell? ⟨bR,1,none⟩=some (.int .i64 0):=by rw [cell_blk (hW.res trivial)];rfl
  have z2:wr.cell? ⟨bR,2,none⟩=some (.int .u64 0):=by rw [cell_blk (hW.res trivial)];rfl
  have fR:∀ j,wr.frozen? ⟨bR,j,none⟩=false:=λj=>frozen_blk (hW.res trivial) j
  have fY:∀ j,wr.frozen? ⟨bY,j,none⟩=false:=λj=>frozen_blk hW.blk j
  cases n with
  | zero=>
   have hz0:Z=((ts,last),tt,rr):=hz
   clear hz x7 htn hlen
   rw [show(((0:Nat):Int) - 1)=-1 from rfl]
   have hl:ts.length<=m:=by have:=Htn.out;have:=Hlen.out;omega
   have FO:=Lib.hid (λ(fn:Func) (hfn:fn.results=#[.cell 8 175]) (a:Act) (ha:a.tmps.getD 8 undef=.pointer (some ⟨bR,0,none⟩)) (hd:a.defers=[])=>down_out hfn hz0 hO hW hl hts ha hd)
   clear hO hW hts hA hz0
   go_wp2
   exact FO.out _ rfl _ rfl rfl
  | succ n=>
   have hLi:(n:Int)<=11:=by have:=Hlen.out;omega
   have ej:(((n+1:Nat):Int) - 1)=(n:Int):=by omega
   rw [ej]
   have i1:(0:Int)<=(n:Int):=by omega
   have i2:¬ (n:Int)<0:=by omega
   cases hh:tt.halt with
   | true=>
    have hz0:Z=((ts,last),tt,rr):=by rw [hz];exact dnRun_halt _ _ _ _ _ _ _ _ hh
    rw [hh] at x7
    have hl:ts.length<=m:=by have:=Htn.out;have:=Hlen.out;omega
    have FO:=Lib.hid (λ(fn:Func) (hfn:fn.results=#[.cell 8 175]) (a:Act) (ha:a.tmps.getD 8 undef=.pointer (some ⟨bR,0,none⟩)) (hd:a.defers=[])=>down_out hfn hz0 hO hW hl hts ha hd)
    clear hO hW hts hA hz0 hz hh htn hlen
    go_wp2
    exact FO.out _ rfl _ rfl rfl
   | false=>
    rw [hh] at x7
    unfold dnRun at hz
    rw [if_neg (by rw [hh];exact Bool.false_ne_true)] at hz
    have hbv:((v:Int) / 2^n).tmod 2=((v / 2^n % 2:Nat):Int):=tmod_bit v n
    have hk8:k<8192:=Nat.lt_of_lt_of_le hk2 (show 2^(ts.length+1)<=2^13 from Nat.pow_le_pow_right (by decide) (by have:=Hlen.out;have:=Htn.out;omega))
    have hlen1:tn+1+n=m:=by have:=Hlen.out;have:=Htn.out;omega
    have hm9:tn<=12:=by omega
    have wn:IntKind.i64.wrap ((n:Int) - 1)=(n:Int) - 1:=by rw [IntKind.wrap_i64];omega
    have wneg:IntKind.i64.wrap (-(k:Int))=-(k:Int):=by rw [IntKind.wrap_i64];omega
    have w2k:IntKind.i64.wrap (2*(k:Int))=2*(k:Int):=by rw [IntKind.wrap_i64];omega
    have w2k1:IntKind.i64.wrap (2*(k:Int)+1)=2*(k:Int)+1:=by rw [IntKind.wrap_i64];omega
    have wa1:IntKind.i64.wrap ((b:Int)+(k:Int))=(b:Int)+(k:Int):=by rw [IntKind.wrap_i64];omega
    have wa2:IntKind.i64.wrap ((b:Int)+(k:Int) - 1)=(b:Int)+(k:Int) - 1:=by rw [IntKind.wrap_i64];omega
    have Hk2:=Lib.hid hk2;have Hts:=Lib.hid hts;have Hlen1:=Lib.hid hlen1
    have NX:=Lib.hid (λ(d:Bool)=>(⟨by rw [List.length_append,List.length_singleton];have:=Hlen1.out;have:=Htn.out;omega,by rw [List.length_append,List.length_singleton,Nat.pow_succ];have:=Hk2.out;cases d<;>simp<;>omega,λx hx=>by
     rcases List.mem_append.1 hx with h9|h9
     ·exact Hts.out x h9
     ·rw [List.mem_singleton.1 h9];exact⟨hk1,by show k<=100000;omega⟩⟩:(ts++[(k,d)]).length+n=m/\2*k+d.toNat<2^((ts++[(k,d)]).length+1)/\∀ x,x∈ts++[(k,d)]->1<=x.1/\x.1<=100000))
    by_cases hbit:v / 2^n % 2=1
    ·rw [if_pos hbit] at hz
     have t1:((((v:Int) / 2^n).tmod 2) == 1)=true:=by rw [hbv,hbit];rfl
     have Hz:=Lib.hid hz;have HO:=Lib.hid hO;have HW:=Lib.hid hW
     have hrow:=hW.row
     rw [<-htn] at hrow
     have Hrow:=Lib.hid hrow
     have TU:=Lib.hid (λ(g' vc M:Nat) (w6:World) (hM:M=tn+1) (hown:w6.ownsRow 0 3 1 (.slice (some ⟨g',0,none⟩) M vc) M ((tnI ts++[-(k:Int)]).map (Value.int .i64))) (hch:Chg (λb=>(Value.slice ta tn tc).ownBlock=some b) (wr.alloc (.cells #[.int .i64 (-(k:Int))] 3)) w6) (hat:(Value.slice ta tn tc).ownBlock=some g'∨g'=(wr.alloc (.cells #[.int .i64 (-(k:Int))] 3)).heap.size) (hlt:g'<w6.heap.size)=>
      wy_turn HW.out HO.out k true (by rw [hM,Htn.out]) rfl hown hch hat hlt)
     clear hz hO hW hA hh htn hlen hbit hbv hts hk2 hlen1 hrow HO Hk2 Hts Hlen1
     go_upto_region 8 with(at_builtin;refine wpList_push_int rfl _ _ rfl _ (tnI ts) tn (by rw [Htn.out];simp [tnI]) (by omega) rfl (row_below Hrow.out (Gr.new _ _)) wr.heap.size (-(k:Int)) rfl (heap_alloc_new _ _) ?_;intro g' vc M w6 hM hown hch hat hlt;obtain⟨s6,f6,F60⟩:=TU.out g' vc M w6 hM hown hch hat hlt;have F6:=Lib.hid F60;clear F60 hM hown hch hat hlt TU)
     go_wp2
     go_roundw
     case rel=>exact⟨n,2*k+1,ts++[(k,true)],last,tt,rr,_,rfl,by go_num,Hz.out,F6.out.2,F6.out.1,(NX.out true).1,by omega,(NX.out true).2.1,(NX.out true).2.2⟩
     case measure=>simp [intOf]<;>omega
    ·rw [if_neg hbit] at hz
     have t1:((((v:Int) / 2^n).tmod 2) == 1)=false:=by
      rw [hbv,show v / 2^n % 2=0 by omega];rfl
     have ea:((b+k - 1:Nat):Int)=(b:Int)+(k:Int) - 1:=by omega
     have RC:=hO.call (R:=λe _=>e=.returned (.int .u64 ((accP 0 ((b+k - 1:Nat):Int) 0 0 tt rr).1:Int))) (F:=102) (args:=#[.pointer (some ⟨B.I.tb,B.I.pre.length,none⟩),.int .i64 ((b+k - 1:Nat):Int)]) (t':=(accP 0 ((b+k - 1:Nat):Int) 0 0 tt rr).2.1) (r':=(accP 0 ((b+k - 1:Nat):Int) 0 0 tt rr).2.2) (λB' e1 e2 hB'=>by
      have h9:=tread_r hB' ((b+k - 1:Nat):Int)
      rw [e1,e2] at h9;exact h9)
     obtain⟨g,tt1,rr1,hg⟩:∃ g tt1 rr1,(g,tt1,rr1)=accP 0 ((b+k - 1:Nat):Int) 0 0 tt rr:=⟨_,_,_,rfl⟩
     rw [<-hg] at hz RC
     rw [ea] at RC
     simp only at hz RC
     obtain⟨la,hla⟩:∃ la,la=lastP tt1:=⟨_,rfl⟩
     rw [<-hla] at hz
     have HRC:=Lib.hid RC;have HW:=Lib.hid hW
     have HLA:=Lib.hid (λ(u:World) (hu:RAt B u tt1 rr1)=>(by have h9:=last_r hu;rw [<-hla] at h9;exact h9:Calls Tryz.prog 107 #[.pointer (some ⟨B.I.tb,B.I.pre.length,none⟩)] u λe w'=>e=.returned (.int .i64 la)/\Below u.heap.size u w'))
     have Hz:=Lib.hid hz
     clear hz RC ea hO hA hh htn hlen hbit hbv hts hk2 hlen1 Hk2 Hlen1 hg hla y0 y1 y2 z0 z1 z2 fR fY
     go_upto_region 10 with(go_at_call 102;refine HRC.out.mono ?_;rintro e w1 ⟨rfl,hO1,hsz,hkp⟩;have hW1:=HW.out.keep hsz hkp;have HL1:=Lib.hid (HLA.out w1 hO1.at);have HO1:=Lib.hid hO1;have HW1:=Lib.hid hW1;clear hsz hkp hO1 hW1 HRC HLA HW)
     have y1:w1.cell? ⟨bY,1,none⟩=some (.int .i64 last):=by rw [cell_blk HW1.out.blk];rfl
     have fY:w1.frozen? ⟨bY,1,none⟩=false:=frozen_blk HW1.out.blk _
     have lY:=blk_lt HW1.out.blk
     go_upto_region 11 with(go_at_call 107;refine HL1.out.mono ?_;rintro e w2 ⟨rfl,hb2⟩;have y2:=(hb2.cell (p:=⟨bY,1,none⟩) lY).trans y1;have f2:=(hb2.frozen (p:=⟨bY,1,none⟩) lY).trans fY)
     obtain⟨w3,hw3⟩:∃ w3,w3=w2.setCell ⟨bY,1,none⟩ (.int .i64 la):=⟨_,rfl⟩
     rw [<-hw3]
     obtain⟨hW3,hO3⟩:=wy_last (HW1.out.grown hb2) (HO1.out.grown hb2) la
     rw [<-hw3] at hW3 hO3
     clear hw3 y2 f2 hb2 y1 fY lY HL1 HO1 HW1
     have y0:w3.cell? ⟨bY,0,none⟩=some (.slice ta tn tc):=by rw [cell_blk hW3.blk];rfl
     have y1:w3.cell? ⟨bY,1,none⟩=some (.int .i64 la):=by rw [cell_blk hW3.blk];rfl
     have y2:w3.cell? ⟨bY,2,none⟩=some (.int .u64 0):=by rw [cell_blk hW3.blk];rfl
     have z0:w3.cell? ⟨bR,0,none⟩=some (.slice none 0 0):=by rw [cell_blk (hW3.res trivial)];rfl
     have z1:w3.cell? ⟨bR,1,none⟩=some (.int .i64 0):=by rw [cell_blk (hW3.res trivial)];rfl
     have z2:w3.cell? ⟨bR,2,none⟩=some (.int .u64 0):=by rw [cell_blk (hW3.res trivial)];rfl
     have fR:∀ j,w3.frozen? ⟨bR,j,none⟩=false:=λj=>frozen_blk (hW3.res trivial) j
     have fY:∀ j,w3.frozen? ⟨bY,j,none⟩=false:=λj=>frozen_blk hW3.blk j
     have hz:=Hz.out
     by_cases hg1:g=1
     ·rw [if_pos hg1] at hz
      have l1:((g:Int) == 1)=true:=by rw [hg1];rfl
      have hl:ts.length<=m:=by have:=Hlen.out;omega
      have hts:=Hts.out
      have FO:=Lib.hid (λ(fn:Func) (hfn:fn.results=#[.cell 8 175]) (a:Act) (ha:a.tmps.getD 8 undef=.pointer (some ⟨bR,0,none⟩)) (hd:a.defers=[])=>down_out hfn hz hO3 hW3 hl hts ha hd)
      clear hO3 hW3 hts hz Hz Hts hl NX
      go_wp2
      exact FO.out _ rfl _ rfl rfl
     ·rw [if_neg hg1] at hz
      have l1:((g:Int) == 1)=false:=by simp;omega
      have Hz2:=Lib.hid hz;have HO:=Lib.hid hO3;have HW:=Lib.hid hW3
      have hrow:=hW3.row
      rw [<-Htn.out] at hrow
      have Hrow:=Lib.hid hrow
      have TU:=Lib.hid (λ(g' vc M:Nat) (w6:World) (hM:M=tn+1) (hown:w6.ownsRow 0 3 1 (.slice (some ⟨g',0,none⟩) M vc) M ((tnI ts++[(k:Int)]).map (Value.int .i64))) (hch:Chg (λb=>(Value.slice ta tn tc).ownBlock=some b) (w3.alloc (.cells #[.int .i64 (k:Int)] 3)) w6) (hat:(Value.slice ta tn tc).ownBlock=some g'∨g'=(w3.alloc (.cells #[.int .i64 (k:Int)] 3)).heap.size) (hlt:g'<w6.heap.size)=>
       wy_turn HW.out HO.out k false (by rw [hM,Htn.out]) rfl hown hch hat hlt)
      clear hz Hz hO3 hW3 hrow HO Hts
      go_upto_region 13 with(at_builtin;refine wpList_push_int rfl _ _ rfl _ (tnI ts) tn (by rw [Htn.out];simp [tnI]) (by omega) rfl (row_below Hrow.out (Gr.new _ _)) w3.heap.size (k:Int) rfl (heap_alloc_new _ _) ?_;intro g' vc M w6 hM hown hch hat hlt;obtain⟨s6,f6,F60⟩:=TU.out g' vc M w6 hM hown hch hat hlt;have F6:=Lib.hid F60;clear F60;clear hM hown hch hat hlt TU)
      go_wp2
      go_roundw
      case rel=>exact⟨n,2*k,ts++[(k,false)],la,tt1,rr1,_,rfl,by go_num,Hz2.out,F6.out.2,F6.out.1,(NX.out false).1,by omega,(NX.out false).2.1,(NX.out false).2.2⟩
      case measure=>simp [intOf]<;>omega
end
section

/- A max register in the reference's play: one that reads. -/
open Go.RowKit
variable {B:RBase} {w w':World} {t:TapeP} {r:RWD}
set_option maxHeartbeats 8000000 in
theorem read_w (h:RAt B w t r) (b:Nat) (hb9:b<=500000) (m:Nat) (hm:m<=12) :
  Calls Tryz.prog 110 #[.pointer (some ⟨B.I.tb,B.I.pre.length,none⟩),.int .i64 (b:Int),.int .i64 (m:Int)] w λe w'=>e=.returned (.int .u64 ((mxReadP b m t r).1:Int))/\RAt B w' (mxReadP b m t r).2.1 (mxReadP b m t r).2.2:=by
 have x2:=h.cInv
 have ltb:=h.lt
 obtain⟨Z,hZ⟩:∃ Z,Z=rdRun b m 1 [] 0 t r:=⟨_,rfl⟩
 have hRP:mxReadP b m t r=rdEnd b Z:=by rw [hZ];rfl
 rw [hRP]
 obtain⟨E,hE⟩:∃ E,E=rdEnd b Z:=⟨_,rfl⟩
 rw [<-hE]
 have HE:=Lib.hid hE
 obtain⟨iv,hiv⟩:∃ iv,iv=(t.inv:Int):=⟨_,rfl⟩
 rw [<-hiv] at x2
 obtain⟨wb,hwb⟩:∃ wb,wb=w.alloc (.cells #[.slice none 0 0,.int .i64 iv,.int .u64 0] 175):=⟨_,rfl⟩
 obtain⟨bY,hbY⟩:∃ bY,bY=w.heap.size:=⟨_,rfl⟩
 have hg:Below w.heap.size w wb:=by rw [hwb];exact Gr.new _ _
 have hY:wb.heap[bY]?=some (.cells #[.slice none 0 0,.int .i64 iv,.int .u64 ((0:Nat):Int)] 175 (0,0)):=by rw [hwb,hbY];exact heap_alloc_new _ _
 have hW0:WyAt False wb 0 bY (.slice none 0 0) [] iv 0:=⟨λz=>z.elim,λz=>z.elim,hY,by exact⟨by decide,.inl ⟨rfl,rfl⟩⟩⟩
 have hO0:RAtO B wb t r (WyX False 0 bY (.slice none 0 0)):=h.own hg (λq hq=>by
  have hsz:wb.heap.size=w.heap.size+1:=by rw [hwb];simp
  rcases hq with⟨e,_⟩|e|e
  ·exact e.elim
  ·omega
  ·cases e)
 have Hwb:=Lib.hid hwb;have HZ:=Lib.hid hZ;have HW0:=Lib.hid hW0;have HO0:=Lib.hid hO0;have HbY:=Lib.hid hbY
 clear h hZ hiv hwb hg hY hW0 hO0 hbY hRP hE
 go_enter Tryz.func110,Tryz.ntmps110
 go_upto_region 4 with fail
 rw [<-Hwb.out,<-HbY.out]
 clear Hwb HbY
 go_loopw [8,16] (λkv i wr=>∃(j n k:Nat) (ts:List (Nat×Bool)) (val:Nat) (tt:TapeP) (rr:RWD) (tv:Value),i=.int .i64 (j:Int)/\kv=.int .i64 (k:Int)/\j+n=m/\Z=rdRun b n k ts val tt rr/\RAtO B wr tt rr (WyX False 0 bY tv)/\WyAt False wr 0 bY tv ts iv val/\ts.length=j/\val<2^j/\1<=k/\k<2^(j+1)/\∀ x,x∈ts->1<=x.1/\x.1<=100000) (λ_ i _=>m - (intOf i).toNat)
 case atStart=>exact⟨0,m,1,[],0,t,r,.slice none 0 0,rfl,rfl,by omega,HZ.out,HO0.out,HW0.out,rfl,by decide,Nat.le_refl _,by decide,(λx hx=>by cases hx)⟩
 case round=>
  obtain⟨j,n,k,ts,val,tt,rr,tv,rfl,rfl,hjn,hz,hO,hW,hlen,hval,hk1,hk2,hts⟩:=hrel
  obtain⟨ta,tc,rfl⟩:=row_form hW.row
  obtain⟨tn,htn⟩:∃ tn,tn=ts.length:=⟨_,rfl⟩
  rw [<-htn] at hO hW
  have Htn:=Lib.hid htn;have Hlen:=Lib.hid hlen;have Hjn:=Lib.hid hjn
  have hjm:j<=12:=by omega
  have hv9:val<4096:=Nat.lt_of_lt_of_le hval (show 2^j<=2^12 from Nat.pow_le_pow_right (by decide) hjm)
  have hk8:k<8192:=Nat.lt_of_lt_of_le hk2 (show 2^(j+1)<=2^13 from Nat.pow_le_pow_right (by decide) (by omega))
  cases n with
  | zero=>
   have hz0:Z=((ts,val),tt,rr):=hz
   have l1:¬ (j:Int)<(m:Int):=by omega
   have hA:=hO.at
   have x7:=hA.cHalt
   cases hh:tt.halt with
   | true=>
    rw [hh] at x7
    have Fin:=Lib.hid (show Ending.returned (.int .u64 0)=.returned (.int .u64 (E.1:Int))/\RAt B wr E.2.1 E.2.2 from by
     rw [HE.out,hz0]
     unfold rdEnd
     rw [if_pos hh]
     exact⟨rfl,hA⟩)
    clear hz hz0 hO hW hts hA hh htn hlen hval hk2 hjn
    go_wp2
    go_ret
    exact Fin.out
   | false=>
    rw [hh] at x7
    obtain⟨la,hla⟩:∃ la,la=lastP tt:=⟨_,rfl⟩
    have hRe:E=(val,{ tt with key:=mxKeyW (rSet rr b) ts la },rr):=by
     rw [HE.out,hz0]
     unfold rdEnd
     rw [if_neg (by rw [hh];exact Bool.false_ne_true),hla]
    have LC:=last_r hA
    rw [<-hla] at LC
    have HL:=Lib.hid LC
    have y1:wr.cell? ⟨bY,1,none⟩=some (.int .i64 iv):=by rw [cell_blk hW.blk];rfl
    have fY:wr.frozen? ⟨bY,1,none⟩=false:=frozen_blk hW.blk _
    have lY:=blk_lt hW.blk
    have ltb2:=hA.lt
    have HO:=Lib.hid hO;have HW:=Lib.hid hW;have Hts:=Lib.hid hts;have HRe:=Lib.hid hRe
    clear hz hz0 hRe hla LC hO hW hts hA hh htn hlen hval hk2 hjn
    go_upto_region 16 with(go_at_call 107;refine HL.out.mono ?_;rintro e w2 ⟨rfl,hb2⟩;have y2:=(hb2.cell (p:=⟨bY,1,none⟩) lY).trans y1;have f2:=(hb2.frozen (p:=⟨bY,1,none⟩) lY).trans fY)
    obtain⟨w3,hw3⟩:∃ w3,w3=w2.setCell ⟨bY,1,none⟩ (.int .i64 la):=⟨_,rfl⟩
    rw [<-hw3]
    obtain⟨hW3,hO3⟩:=wy_last (HW.out.grown hb2) (HO.out.grown hb2) la
    rw [<-hw3] at hW3 hO3
    clear hw3 y2 f2 hb2 y1 fY lY HL HO HW x7
    have y0:w3.cell? ⟨bY,0,none⟩=some (.slice ta tn tc):=by rw [cell_blk hW3.blk];rfl
    have y1:w3.cell? ⟨bY,1,none⟩=some (.int .i64 la):=by rw [cell_blk hW3.blk];rfl
    have y2:w3.cell? ⟨bY,2,none⟩=some (.int .u64 (val:Int)):=by rw [cell_blk hW3.blk];rfl
    have hA3:=hO3.at
    have x12:∃ z,w3.cell? ⟨B.I.tb,B.I.pre.length+12,none⟩=some z:=by obtain⟨_,_,_,_,KV,h9⟩:=hA3.get (i:=12) (by omega);exact⟨_,h9⟩
    obtain⟨z12,x12⟩:=x12
    have xf:=hA3.frozen (B.I.pre.length+12)
    have ltb3:=hA3.lt
    have lY:=blk_lt hW3.blk
    have hrow:=hW3.row
    rw [<-Htn.out] at hrow
    have hsl:=(row_sl hrow (by have:=Htn.out;have:=Hlen.out;unfold maxLen;omega) (g:=intG (tnI ts)) (λq hq=>by
     have hq':q<(tnI ts).length:=by rw [tnI,List.length_map,<-Htn.out];exact hq
     simp only [intG,List.getElem?_map,List.getD_eq_getElem?_getD,List.getElem?_eq_getElem hq'];rfl)).1
    have KC:=key_w hA3 b hb9 ts Hts.out (by have:=Hlen.out;omega) la val ta tc (by rw [<-Htn.out];exact hsl)
    rw [<-Htn.out] at KC
    obtain⟨ky,hky⟩:∃ ky,ky=mxKeyW (rSet rr b) ts la:=⟨_,rfl⟩
    have hkl:=mxKeyW_len (rSet rr b) la ts
    rw [<-hky] at KC hkl
    have hRe:=HRe.out
    rw [<-hky] at hRe
    have HRe:=Lib.hid hRe
    have HKC:=Lib.hid KC;have HA3:=Lib.hid hA3
    obtain⟨kn,hkn⟩:∃ kn,kn=ky.length:=⟨_,rfl⟩
    rw [<-hkn] at HKC
    have NEW:=Lib.hid (λ(g c:Nat) (w4:World) (hs:SlAt w4 (some ⟨g,0,none⟩) kn 1 (intG ky)) (hg:w3.heap.size<=g) (hb:Below w3.heap.size w3 w4)=>(by
     have h9:=(HA3.out.newL hb (a:=some ⟨g,0,none⟩) (c:=c) (l:=ky) (by rw [<-hkn];exact hs) (λe=>by rw [e] at hkl;exact absurd hkl.1 (by decide)) (λb' off e=>by cases e;exact hg)).putKey
     rw [<-hkn] at h9;exact h9:RAt B (w4.setCell ⟨B.I.tb,B.I.pre.length+12,none⟩ (.slice (some ⟨g,0,none⟩) kn c)) { tt with key:=ky } rr))
    clear hW3 hO3 hA3 hrow hsl KC hky hkn hkl Hts HA3 hRe
    go_wp2_with (go_at_call 98;refine HKC.out.mono ?_;rintro e w4 ⟨g,c,rfl,hs4,hg4,hb4⟩;have x4:=(hb4.cell (p:=⟨B.I.tb,B.I.pre.length+12,none⟩) ltb3).trans x12;have xf4:=(hb4.frozen (p:=⟨B.I.tb,B.I.pre.length+12,none⟩) ltb3).trans xf;have y4:=(hb4.cell (p:=⟨bY,2,none⟩) lY).trans y2;have N4:=Lib.hid (NEW.out g c w4 hs4 hg4 hb4);clear hs4 hg4 hb4 NEW)
    go_ret
    exact⟨by rw [HRe.out];rfl,by rw [HRe.out];exact N4.out⟩
  | succ n=>
   have l1:(j:Int)<(m:Int):=by omega
   have ea:((b+k - 1:Nat):Int)=(b:Int)+(k:Int) - 1:=by omega
   have RC:=hO.call (R:=λe _=>e=.returned (.int .u64 ((accP 0 ((b+k - 1:Nat):Int) 0 0 tt rr).1:Int))) (F:=102) (args:=#[.pointer (some ⟨B.I.tb,B.I.pre.length,none⟩),.int .i64 ((b+k - 1:Nat):Int)]) (t':=(accP 0 ((b+k - 1:Nat):Int) 0 0 tt rr).2.1) (r':=(accP 0 ((b+k - 1:Nat):Int) 0 0 tt rr).2.2) (λB' e1 e2 hB'=>by
    have h9:=tread_r hB' ((b+k - 1:Nat):Int)
    rw [e1,e2] at h9;exact h9)
   unfold rdRun at hz
   obtain⟨g,tt1,rr1,hg⟩:∃ g tt1 rr1,(g,tt1,rr1)=accP 0 ((b+k - 1:Nat):Int) 0 0 tt rr:=⟨_,_,_,rfl⟩
   rw [<-hg] at hz RC
   rw [ea] at RC
   simp only at hz RC
   obtain⟨v2,hv2⟩:∃ v2,v2=2*val+g % 2:=⟨_,rfl⟩
   rw [<-hv2] at hz
   have hv2b:v2<2^(j+1):=by rw [Nat.pow_succ];omega
   have HvI:=Lib.hid (show 2*(val:Int)+(g:Int) % 2=(v2:Int) by omega)
   have w2v:IntKind.u64.wrap (2*(val:Int))=2*(val:Int):=by rw [IntKind.wrap_u64];omega
   have wneg:IntKind.i64.wrap (-(k:Int))=-(k:Int):=by rw [IntKind.wrap_i64];omega
   have w2k:IntKind.i64.wrap (2*(k:Int))=2*(k:Int):=by rw [IntKind.wrap_i64];omega
   have w2k1:IntKind.i64.wrap (2*(k:Int)+1)=2*(k:Int)+1:=by rw [IntKind.wrap_i64];omega
   have wa1:IntKind.i64.wrap ((b:Int)+(k:Int))=(b:Int)+(k:Int):=by rw [IntKind.wrap_i64];omega
   have wa2:IntKind.i64.wrap ((b:Int)+(k:Int) - 1)=(b:Int)+(k:Int) - 1:=by rw [IntKind.wrap_i64];omega
   have wj:IntKind.i64.wrap ((j:Int)+1)=(j:Int)+1:=by rw [IntKind.wrap_i64];omega
   have htn9:tn<=12:=by omega
   have Hk2:=Lib.hid hk2;have Hts:=Lib.hid hts;have Hv2:=Lib.hid hv2b
   have NX:=Lib.hid (λ(d:Bool)=>(⟨by have:=Hk2.out;rw [Nat.pow_succ];cases d<;>simp<;>omega,λx hx=>by
    rcases List.mem_append.1 hx with h9|h9
    ·exact Hts.out x h9
    ·rw [List.mem_singleton.1 h9];exact⟨hk1,by show k<=100000;omega⟩⟩:2*k+d.toNat<2^(j+1+1)/\∀ x,x∈ts++[(k,d)]->1<=x.1/\x.1<=100000))
   have HRC:=Lib.hid RC;have HW:=Lib.hid hW;have Hz:=Lib.hid hz
   clear hz RC ea hO htn hlen hts hk2 hg hv2 hW hjn hv2b hval
   go_upto_region 6 with(go_at_call 102;refine HRC.out.mono ?_;rintro e w1 ⟨rfl,hO1,hsz,hkp⟩;have hW1:=HW.out.keep hsz hkp;have HO1:=Lib.hid hO1;have HW1:=Lib.hid hW1;clear hsz hkp hO1 hW1 HRC HW)
   have y2:w1.cell? ⟨bY,2,none⟩=some (.int .u64 (val:Int)):=by rw [cell_blk HW1.out.blk];rfl
   have fY:w1.frozen? ⟨bY,2,none⟩=false:=frozen_blk HW1.out.blk _
   go_upto_region 7 with fail
   obtain⟨w3,hw3⟩:∃ w3,w3=w1.setCell ⟨bY,2,none⟩ (.int .u64 (2*(val:Int)+(g:Int) % 2)):=⟨_,rfl⟩
   rw [<-hw3]
   rw [HvI.out] at hw3
   obtain⟨hW3,hO3⟩:=wy_val HW1.out HO1.out v2
   rw [<-hw3] at hW3 hO3
   clear hw3 y2 fY HW1 HO1
   have y0:w3.cell? ⟨bY,0,none⟩=some (.slice ta tn tc):=by rw [cell_blk hW3.blk];rfl
   have y2:w3.cell? ⟨bY,2,none⟩=some (.int .u64 (v2:Int)):=by rw [cell_blk hW3.blk];rfl
   have HO:=Lib.hid hO3;have HW:=Lib.hid hW3
   have hrow:=hW3.row
   rw [<-Htn.out] at hrow
   have Hrow:=Lib.hid hrow
   have hz:=Hz.out
   clear Hz hO3 hW3 hrow
   by_cases hg1:g=1
   ·have hd:decide (g=1)=true:=by rw [hg1];rfl
    rw [hd] at hz
    have Hz2:=Lib.hid (show Z=rdRun b n (2*k+1) (ts++[(k,true)]) v2 tt1 rr1 from hz)
    have l3:((g:Int) == 1)=true:=by rw [hg1];rfl
    clear hz hd hg1
    have TU:=Lib.hid (λ(g' vc M:Nat) (w6:World) (hM:M=tn+1) (hown:w6.ownsRow 0 3 1 (.slice (some ⟨g',0,none⟩) M vc) M ((tnI ts++[-(k:Int)]).map (Value.int .i64))) (hch:Chg (λb=>(Value.slice ta tn tc).ownBlock=some b) (w3.alloc (.cells #[.int .i64 (-(k:Int))] 3)) w6) (hat:(Value.slice ta tn tc).ownBlock=some g'∨g'=(w3.alloc (.cells #[.int .i64 (-(k:Int))] 3)).heap.size) (hlt:g'<w6.heap.size)=>
     wy_turn HW.out HO.out k true (by rw [hM,Htn.out]) rfl hown hch hat hlt)
    clear HO HW Hts y2
    go_upto_region 9 with(at_builtin;refine wpList_push_int rfl _ _ rfl _ (tnI ts) tn (by rw [Htn.out];simp [tnI]) (by omega) rfl (row_below Hrow.out (Gr.new _ _)) w3.heap.size (-(k:Int)) rfl (heap_alloc_new _ _) ?_;intro g' vc M w6 hM hown hch hat hlt;obtain⟨s6,f6,F60⟩:=TU.out g' vc M w6 hM hown hch hat hlt;have F6:=Lib.hid F60;clear F60;clear hM hown hch hat hlt TU)
    go_wp2
    go_roundw
    case rel=>exact⟨j+1,n,2*k+1,ts++[(k,true)],v2,tt1,rr1,_,by go_num,by go_num,by have:=Hjn.out;omega,Hz2.out,F6.out.2,F6.out.1,by rw [List.length_append,List.length_singleton,Hlen.out],Hv2.out,by omega,(NX.out true).1,(NX.out true).2⟩
    case measure=>simp [intOf]<;>have:=Hjn.out<;>omega
   ·have hd:decide (g=1)=false:=by simp [hg1]
    rw [hd] at hz
    have Hz2:=Lib.hid (show Z=rdRun b n (2*k) (ts++[(k,false)]) v2 tt1 rr1 from hz)
    have l3:((g:Int) == 1)=false:=by simp;omega
    clear hz hd hg1
    have TU:=Lib.hid (λ(g' vc M:Nat) (w6:World) (hM:M=tn+1) (hown:w6.ownsRow 0 3 1 (.slice (some ⟨g',0,none⟩) M vc) M ((tnI ts++[(k:Int)]).map (Value.int .i64))) (hch:Chg (λb=>(Value.slice ta tn tc).ownBlock=some b) (w3.alloc (.cells #[.int .i64 ((k:Int))] 3)) w6) (hat:(Value.slice ta tn tc).ownBlock=some g'∨g'=(w3.alloc (.cells #[.int .i64 ((k:Int))] 3)).heap.size) (hlt:g'<w6.heap.size)=>
     wy_turn HW.out HO.out k false (by rw [hM,Htn.out]) rfl hown hch hat hlt)
    clear HO HW Hts y2
    go_upto_region 11 with(at_builtin;refine wpList_push_int rfl _ _ rfl _ (tnI ts) tn (by rw [Htn.out];simp [tnI]) (by omega) rfl (row_below Hrow.out (Gr.new _ _)) w3.heap.size ((k:Int)) rfl (heap_alloc_new _ _) ?_;intro g' vc M w6 hM hown hch hat hlt;obtain⟨s6,f6,F60⟩:=TU.out g' vc M w6 hM hown hch hat hlt;have F6:=Lib.hid F60;clear F60;clear hM hown hch hat hlt TU)
    go_wp2
    go_roundw
    case rel=>exact⟨j+1,n,2*k,ts++[(k,false)],v2,tt1,rr1,_,by go_num,by go_num,by have:=Hjn.out;omega,Hz2.out,F6.out.2,F6.out.1,by rw [List.length_append,List.length_singleton,Hlen.out],Hv2.out,by omega,(NX.out false).1,(NX.out false).2⟩
    case measure=>simp [intOf]<;>have:=Hjn.out<;>omega
end
end Go.Proofs.YteffgpcjfnjlkaaGreat
