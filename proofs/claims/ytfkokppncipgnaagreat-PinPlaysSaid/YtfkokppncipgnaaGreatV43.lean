/- The reference's Do at each kind of object. -/
import Derived.Test.YtfkokppncipgnaaGreatV20
import Derived.Test.YtfkokppncipgnaaGreatV26
import Derived.Test.YtfkokppncipgnaaGreatV34
import Derived.Test.YtfkokppncipgnaaGreatV42
import Derived.Test.YtfkokppncipgnaaGreatV15
set_option maxRecDepth 100000
set_option linter.unusedVariables false
set_option linter.unusedSimpArgs false
set_option linter.unnecessarySimpa false
namespace Go.Proofs.YtfkokppncipgnaaGreat
open List renaming getElem_toArray → zq1, getElem_cons_zero → zq2, getElem_cons_succ → zq3, setIfInBounds_toArray → zq4, set_cons_zero → zq5, set_cons_succ → zq6
section
open Go.RowKit
theorem do_boxes (w:World) (kd sP sQ th kn:Int) (xa xb xc:Nat):∃ wb,wb=(w.alloc (.cells #[.int .i64 kd,.int .i64 sP,.int .i64 sQ] 39)).alloc (.cells #[.int .i64 th,.int .i64 0,.int .i64 kn,.int .u64 (xa:Int),.int .u64 (xb:Int),.int .u64 (xc:Int)] 48)/\Below w.heap.size w wb/\
  wb.heap[w.heap.size]?=some (.cells #[.int .i64 kd,.int .i64 sP,.int .i64 sQ] 39 (0,0))/\wb.heap[w.heap.size+1]?=some (.cells #[.int .i64 th,.int .i64 0,.int .i64 kn,.int .u64 (xa:Int),.int .u64 (xb:Int),.int .u64 (xc:Int)] 48 (0,0)):=by
 refine⟨_,rfl,Gr.alloc (Gr.new _ _) _,?_,?_⟩
 ·rw [Below.heap_alloc _ _ _ (by simp)];exact heap_alloc_new _ _
 ·have:=heap_alloc_new (w.alloc (.cells #[.int .i64 kd,.int .i64 sP,.int .i64 sQ] 39)) (.cells #[.int .i64 th,.int .i64 0,.int .i64 kn,.int .u64 (xa:Int),.int .u64 (xb:Int),.int .u64 (xc:Int)] 48 (0,0))
  simp only [World.size_alloc] at this
  exact this
set_option maxHeartbeats 4000000 in
theorem do_pin {B:RBase} {w:World} {t:TapeP} {r:RWD} (P:World->Prop) (n:Nat) (sP sQ th kn:Int) (xa xb xc:Nat) (h:RAt B w t r) (FC:∀ u,RAt B u t r->Calls Tryz.prog 69 #[.pointer (some ⟨B.I.tb,B.I.pre.length,none⟩),.int .i64 (n:Int),.int .i64 0,.agg #[.int .i64 9,.int .i64 sP,.int .i64 sQ],.agg #[.int .i64 th,.int .i64 0,.int .i64 kn,.int .u64 (xa:Int),.int .u64 (xb:Int),.int .u64 (xc:Int)]] u λe u'=>e=.returned (.tuple #[])/\P u') :
  Calls Tryz.prog 56 #[.pointer (some ⟨B.I.tb,B.I.pre.length,none⟩),.int .i64 (n:Int),.int .i64 0,.agg #[.int .i64 9,.int .i64 sP,.int .i64 sQ],.agg #[.int .i64 th,.int .i64 0,.int .i64 kn,.int .u64 (xa:Int),.int .u64 (xb:Int),.int .u64 (xc:Int)]] w λe u'=>e=.returned (.tuple #[])/\P u':=by
 obtain⟨wb,hwb,hg,hS,hC⟩:=do_boxes w 9 sP sQ th kn xa xb xc
 have HC:=Lib.hid (FC wb (h.grown hg));have Hwb:=Lib.hid hwb
 clear FC h hg hwb
 have s0:wb.cell? ⟨w.heap.size,0,none⟩=some (.int .i64 9):=by rw [cell_blk hS];rfl
 have s1:wb.cell? ⟨w.heap.size,1,none⟩=some (.int .i64 sP):=by rw [cell_blk hS];rfl
 have s2:wb.cell? ⟨w.heap.size,2,none⟩=some (.int .i64 sQ):=by rw [cell_blk hS];rfl
 have y0:wb.cell? ⟨w.heap.size+1,0,none⟩=some (.int .i64 th):=by rw [cell_blk hC];rfl
 have y1:wb.cell? ⟨w.heap.size+1,1,none⟩=some (.int .i64 0):=by rw [cell_blk hC];rfl
 have y2:wb.cell? ⟨w.heap.size+1,2,none⟩=some (.int .i64 kn):=by rw [cell_blk hC];rfl
 have y3:wb.cell? ⟨w.heap.size+1,3,none⟩=some (.int .u64 (xa:Int)):=by rw [cell_blk hC];rfl
 have y4:wb.cell? ⟨w.heap.size+1,4,none⟩=some (.int .u64 (xb:Int)):=by rw [cell_blk hC];rfl
 have y5:wb.cell? ⟨w.heap.size+1,5,none⟩=some (.int .u64 (xc:Int)):=by rw [cell_blk hC];rfl
 clear hS hC
 go_enter Tryz.func56,Tryz.ntmps56
 go_upto_region 1 with fail
 rw [<-Hwb.out]
 go_wp2_with (go_at_call 69;refine HC.out.mono ?_;rintro e w2 ⟨rfl,h2⟩)
 (go_end0)
 exact⟨rfl,h2⟩
end
section

/- The key of an operation that has not responded: its mark: roundelayplain.Late, but for a max register. -/
open Go.RowKit
set_option maxHeartbeats 4000000 in
theorem late_marks (kd P Q:Int) (n:Nat) (hk:kd≠4):LateC kd P Q n (λ_ p _ r=>r.marks.getD p []):=by
 intro B u c t r h hok hob hp hinv hgot htk hml hA
 obtain⟨wb,hwb,hg,hS,hC⟩:=do_boxes u kd P Q c.thread c.kind c.a c.b c.c
 have hA2:=hA.grown hg
 obtain⟨G,K,L,h1,h2⟩:=id hA2
 obtain⟨PV,LV,KV,ht,_⟩:=h1.tape
 obtain⟨ms,hM,hmn,hms⟩:=h1.marks.blk
 have hnM:B.I.nM=n:=by rw [<-hml];exact h1.marks.len.symm
 have hpm:t.thread<B.I.nM:=by rw [hnM];exact hp
 have hfin:RAtL B wb t r (ms.getD t.thread undef) (r.marks.getD t.thread []):=⟨G,K,L,h1,h2,hms _ hpm⟩
 obtain⟨wa,cap,_,hW,_⟩:=ht.mem.blk
 have d0:wb.cell? ⟨B.I.tb,B.I.pre.length,none⟩=some (.pointer (some ⟨B.I.bW,0,none⟩)):=ht.cell0
 have d1:=hA2.cThread
 have d7:wb.cell? ⟨B.I.bW,7,none⟩=some (.slice (some ⟨B.I.bM,0,none⟩) B.I.nM B.I.nM):=by
  have hW':wb.heap[B.I.bW]?=_:=hW
  rw [cell_blk hW'];rfl
 have dm:wb.cell? ⟨B.I.bM,t.thread,none⟩=some (ms.getD t.thread undef):=by
  rw [cell_blk hM]
  simp [List.getD_eq_getElem?_getD,show t.thread<ms.length by omega]
 obtain⟨mv,hmv⟩:∃ mv,mv=ms.getD t.thread undef:=⟨_,rfl⟩
 rw [<-hmv] at dm hfin
 obtain⟨p,hpp⟩:∃ p,p=t.thread:=⟨_,rfl⟩
 rw [<-hpp] at d1 dm hpm
 have s0:wb.cell? ⟨u.heap.size,0,none⟩=some (.int .i64 kd):=by rw [cell_blk hS];rfl
 have l1:(p:Int)<(B.I.nM:Int):=by omega
 have l2:¬ (p:Int)<0:=by omega
 have lk:(kd == 4)=false:=by simpa using hk
 have D0:=grown_cell d0;have D1:=grown_cell d1;have D7:=grown_cell d7;have DM:=grown_cell dm
 have HF:=Lib.hid hfin;have Hwb:=Lib.hid hwb
 clear hA hA2 h1 h2 ht hM hms hW hfin hmv hpp hS hC hg hwb d0 d1 d7 dm hinv hgot htk hml hnM hmn hp hok
 suffices main:Calls Tryz.prog 44 #[.pointer (some ⟨B.I.tb,B.I.pre.length,none⟩),.int .i64 (n:Int),.int .i64 0,specV kd P Q,callW c] u λe u'=>e=.returned mv/\RAtL B u' t r mv (r.marks.getD t.thread []) by
  refine Calls.mono main ?_
  rintro e u' ⟨h1,h2⟩
  exact⟨mv,t,h1,h2,rfl,rfl,rfl,rfl⟩
 unfold specV callW
 rw [hob]
 clear hob
 go_enter Tryz.func44,Tryz.ntmps44
 go_upto_region 1 with fail
 rw [<-Hwb.out]
 go_upto_region 3 with fail
 ((with_reducible refine wp_region_grown_lit (by kernel_rfl) (by kernel_rfl) ?_);(repeat ((with_reducible refine wpQuiet_step (λK hK=>?_));go_simp;((with_reducible refine hK _ ?_);clear hK K)));(with_reducible refine wpQuiet_nil ?_);intro _ hw';obtain⟨nq,hw''⟩:=hw';subst hw'')
 have hb:=nq.below
 have HG:=Lib.hid (HF.out.grown hb)
 clear hb
 go_wp2
 go_ret
 exact⟨rfl,HG.out⟩
end
section

/- A cons in the reference's play: what its function does. -/
open Go.RowKit
variable {B:RBase} {w w':World} {t:TapeP} {r:RWD}
def TickPre (_:CallD) (t:TapeP) (r:RWD):Prop:=t.inv<=1000000/\r.now<=1000000/\(∀ x,x∈t.ticks->0<=x/\x<=1000000)/\t.thread<r.marks.length/\r.marks.length<=16
end
section

/- A register of many words in the reference's play: one that reads. -/
open Go.RowKit
variable {B:RBase} {w w':World} {t:TapeP} {r:RWD}
theorem accP_list (kd a:Int) (x y:Nat) (t:TapeP) (r:RWD) (l:List Nat):accP kd a x y { t with list:=l } r=((accP kd a x y t r).1,{ (accP kd a x y t r).2.1 with list:=l },(accP kd a x y t r).2.2):=by
 unfold accP
 show(if t.halt=true then _ else if t.at_<t.got.length then _ else if t.fresh=true then _ else _)=_
 by_cases h1:t.halt=true
 ·rw [if_pos h1,if_pos h1]
 ·rw [if_neg h1,if_neg h1]
  by_cases h2:t.at_<t.got.length
  ·rw [if_pos h2,if_pos h2]
  ·rw [if_neg h2,if_neg h2]
   by_cases h3:t.fresh=true
   ·rw [if_pos h3,if_pos h3]
   ·rw [if_neg h3,if_neg h3]
theorem effP_id (t:TapeP) (r:RWD):effP id t r=r:=by unfold effP;split<;>rfl
theorem accP_tick0 (kd a:Int) (x y:Nat) (t:TapeP) (r:RWD) (h:1<=t.ticks.length):(accP kd a x y t r).2.1.ticks.getD 0 0=t.ticks.getD 0 0/\1<=(accP kd a x y t r).2.1.ticks.length:=by
 unfold accP
 split
 ·exact⟨rfl,h⟩
 ·split
  ·exact⟨rfl,h⟩
  ·split
   ·refine⟨?_,?_⟩
    ·show(t.ticks++[_]).getD 0 0=_
     rw [List.getD_eq_getElem?_getD,List.getD_eq_getElem?_getD,List.getElem?_append_left h]
    ·show 1<=(t.ticks++[_]).length
     rw [List.length_append,List.length_singleton];omega
   ·exact⟨rfl,h⟩
theorem accP_tlist (kd a:Int) (x y:Nat) (t:TapeP) (r:RWD):(accP kd a x y t r).2.1.list=t.list:=by
 unfold accP
 split
 ·rfl
 ·split
  ·rfl
  ·split<;>rfl
theorem accP_first (kd a:Int) (x y:Nat) {t:TapeP} (r:RWD) (h1:t.halt=false) (h2:t.fresh=true) (h3:t.at_=0) (h4:t.ticks.length=t.got.length):lastP (accP kd a x y t r).2.1=(accP kd a x y t r).2.1.ticks.getD 0 0/\1<=(accP kd a x y t r).2.1.ticks.length:=by
 unfold accP
 rw [if_neg (by rw [h1];exact Bool.false_ne_true)]
 by_cases h5:t.at_<t.got.length
 ·rw [if_pos h5]
  refine⟨?_,by show 1<=t.ticks.length;omega⟩
  unfold lastP
  show(if t.at_+1=0 then _ else t.ticks.getD (t.at_+1 - 1) 0)=_
  rw [if_neg (by omega),h3]
 ·rw [if_neg h5,if_pos h2]
  refine⟨?_,by show 1<=(t.ticks++[_]).length;rw [List.length_append,List.length_singleton];omega⟩
  unfold lastP
  show(if t.at_+1=0 then _ else (t.ticks++[_]).getD (t.at_+1 - 1) 0)=_
  rw [if_neg (by omega),h3]
set_option maxHeartbeats 8000000 in
theorem rpin_read (n k:Nat) (hn:n<=16) (hk1:1<=k) (hk:k<=8) (th:Int) (xa xb xc:Nat) (h:RAt B w t r) (hl:t.list=[]) (hh:t.halt=false) (hf:t.fresh=true) (h0:t.at_=0) (hv:(accP 3 0 1 0 t r).1<18446744073709551616) (hw9:(accP 3 0 1 0 t r).2.1.ticks.getD 0 0<=1000000/\0<=(accP 3 0 1 0 t r).2.1.ticks.getD 0 0) :
  Calls Tryz.prog 69 #[.pointer (some ⟨B.I.tb,B.I.pre.length,none⟩),.int .i64 (n:Int),.int .i64 0,.agg #[.int .i64 9,.int .i64 (k:Int),.int .i64 0],.agg #[.int .i64 th,.int .i64 0,.int .i64 1,.int .u64 (xa:Int),.int .u64 (xb:Int),.int .u64 (xc:Int)]] w λe u=>e=.returned (.tuple #[])/\RAt B u (rpinDo n k ⟨th,0,1,xa,xb,xc⟩ t r).1 (rpinDo n k ⟨th,0,1,xa,xb,xc⟩ t r).2:=by
 obtain⟨wb,hwb,hg,hS,hC⟩:=do_boxes w 9 (k:Int) 0 th 1 xa xb xc
 have hA:=h.grown hg
 have p1:wb.cell? ⟨w.heap.size,1,none⟩=some (.int .i64 (k:Int)):=by rw [cell_blk hS];rfl
 have q2:wb.cell? ⟨w.heap.size+1,2,none⟩=some (.int .i64 1):=by rw [cell_blk hC];rfl
 obtain⟨_,_,hat,htl,_⟩:=hA.lists
 obtain⟨R,hR⟩:∃ R,R=rpinDo n k ⟨th,0,1,xa,xb,xc⟩ t r:=⟨_,rfl⟩
 rw [<-hR]
 have hR2:R=(piRdPg n k ((accP 3 0 1 0 t r).1 / 4294967296) k []).run (accP 3 0 1 0 t r).2.1 (accP 3 0 1 0 t r).2.2:=by
  rw [hR]
  show(piPg n k ⟨th,0,1,xa,xb,xc⟩ t.thread t.priv).run t r=_
  rw [show piPg n k ⟨th,0,1,xa,xb,xc⟩ t.thread t.priv=.acc 3 0 1 0 id λg=>piRdPg n k (g / 4294967296) k [] from if_pos rfl]
  show(piRdPg n k ((accP 3 0 1 0 t r).1 / 4294967296) k []).run (accP 3 0 1 0 t r).2.1 (effP id (accP 3 0 1 0 t r).2.1 (accP 3 0 1 0 t r).2.2)=_
  rw [effP_id]
 obtain⟨hf1,hf2⟩:=accP_first 3 0 1 0 r hh hf h0 htl
 have hl1:=accP_tlist 3 0 1 0 t r
 rw [hl] at hl1
 have A1:=tadd_r hA 0 1 (by decide)
 obtain⟨Z,hZ⟩:∃ Z,Z=accP 3 0 1 0 t r:=⟨_,rfl⟩
 rw [<-hZ] at A1 hR2 hf1 hf2 hv hl1 hw9
 obtain⟨v,t1,r1⟩:=Z
 simp only at A1 hR2 hf1 hf2 hv hl1 hw9
 obtain⟨q,hq⟩:∃ q,q=v / 4294967296:=⟨_,rfl⟩
 rw [<-hq] at hR2
 have hq9:q<4294967296:=by omega
 have v1:(v:Int) / 4294967296=(q:Int):=by omega
 have v2:IntKind.u64.wrap (q:Int)=(q:Int):=by rw [IntKind.wrap_u64];omega
 have v3:IntKind.i64.wrap (q:Int)=(q:Int):=by rw [IntKind.wrap_i64];omega
 obtain⟨wh,hwh⟩:∃ wh,wh=t1.ticks.getD 0 0:=⟨_,rfl⟩
 rw [<-hwh] at hf1 hw9
 have HA1:=Lib.hid A1;have HR2:=Lib.hid hR2;have Hf1:=Lib.hid hf1;have Hf2:=Lib.hid hf2;have Hl1:=Lib.hid hl1;have Hwb:=Lib.hid hwb;have Hwh:=Lib.hid hwh;have Hq:=Lib.hid hq;have Hw9:=Lib.hid hw9
 clear A1 hR2 hR hZ hf1 hf2 hwb hg hS hC h hA hat htl hl hh hf h0 hl1 hwh hv hq hw9
 go_enter Tryz.func69,Tryz.ntmps69
 go_upto_region 1 with fail
 rw [<-Hwb.out]
 go_upto_region 4 with(go_at_call 91;refine HA1.out.mono ?_;rintro e w2 ⟨rfl,h2⟩)
 have LC:=last_r h2
 rw [Hf1.out] at LC
 have HL:=Lib.hid LC;have H2:=Lib.hid h2
 clear LC h2
 go_upto_region 6 with(go_at_call 93;refine HL.out.mono ?_;rintro e w3 ⟨rfl,hb3⟩)
 have h3:=H2.out.grown hb3
 have H3:=Lib.hid h3
 clear hb3 h3 p1 q2
 go_loopw [33] (λi wr=>∃(j:Nat) (tj:TapeP) (rj:RWD) (l:List Nat) (LV:Value),j<=k/\i=.int .i64 (j:Int)/\RAtQ B wr { tj with list:=l } rj LV/\l.length=j/\R=(piRdPg n k q (k - j) l).run tj rj/\tj.list=[]/\tj.ticks.getD 0 0=wh/\1<=tj.ticks.length) (λi _=>k - (intOf i).toNat)
 case atStart=>
  have e:({ t1 with list:=[] }:TapeP)=t1:=by have:=Hl1.out;rw [<-this]
  exact⟨0,t1,r1,[],.slice none 0 0,Nat.zero_le _,rfl,by rw [e];exact H3.out.noList Hl1.out,rfl,HR2.out,Hl1.out,Hwh.out.symm,Hf2.out⟩
 case round=>
  obtain⟨j,tj,rj,l,LV,hj,rfl,hQ,hlen,hR,hnl,hwh,hf2⟩:=hrel
  by_cases hlt:j<k
  ·obtain⟨m,hm⟩:∃ m,k - j=m+1:=⟨k - j - 1,by omega⟩
   obtain⟨A,hAe⟩:∃ A,A=piWord n k q j:=⟨_,rfl⟩
   obtain⟨qk,hqk⟩:∃ qk,qk=q*k:=⟨_,rfl⟩
   have hA2:A=n+2+qk+j:=by rw [hAe,hqk];rfl
   have hqk2:qk<=4294967296*8:=by rw [hqk];exact Nat.mul_le_mul (by omega) hk
   have hR2:R=(piRdPg n k q m (l++[(accP 0 (A:Int) 0 0 tj rj).1])).run (accP 0 (A:Int) 0 0 tj rj).2.1 (accP 0 (A:Int) 0 0 tj rj).2.2:=by
    rw [hR,hm]
    show(piRdPg n k q m (l++[(accP 0 ((piWord n k q (k - (m+1)):Nat):Int) 0 0 tj rj).1])).run (accP 0 ((piWord n k q (k - (m+1)):Nat):Int) 0 0 tj rj).2.1 (effP id _ _)=_
    rw [effP_id,show k - (m+1)=j by omega,<-hAe]
   obtain⟨LN,hLN⟩:∃ LN,LN=l.length:=⟨_,rfl⟩
   obtain⟨la,lc,rfl⟩:∃ la lc,LV=.slice la LN lc:=by
    obtain⟨_,_,_,_,h9⟩:=hQ.cells
    obtain⟨a,c,e⟩:=row_form h9
    exact⟨a,c,by rw [e,hLN]⟩
   have RD:=λ(u:World) (hu:Below wr.heap.size wr u)=>tread_q (hQ.grown hu) (A:Int)
   simp only [accP_list] at RD
   have hk2:=accP_tick0 0 (A:Int) 0 0 tj rj hf2
   have hl2:=accP_tlist 0 (A:Int) 0 0 tj rj
   obtain⟨Z,hZ⟩:∃ Z,Z=accP 0 (A:Int) 0 0 tj rj:=⟨_,rfl⟩
   rw [<-hZ] at hR2 hk2 hl2
   simp only [<-hZ] at RD
   obtain⟨v,t2,r2⟩:=Z
   simp only at RD hR2 hk2 hl2
   rw [hnl] at hl2
   rw [hwh] at hk2
   have x11:=hQ.cells.1
   have NS:=Lib.hid (λg hg=>(hQ.sep g hg).1)
   obtain⟨k0,hk0,hu0,hu1,hu2⟩:=info_parts u64_info'
   obtain⟨xs,hxs⟩:∃ xs,xs=l.map u64V:=⟨_,rfl⟩
   have hfl:(l++[v]).length=LN+1:=by simp [hLN]
   have hfm:(l++[v]).map u64V=xs++[.int .u64 (v:Int)]:=by simp [hxs,u64V]
   have l1:(j:Int)<(k:Int):=by omega
   have a1:IntKind.i64.wrap (n:Int)=(n:Int):=by rw [IntKind.wrap_i64];omega
   have a2:IntKind.i64.wrap ((n:Int)+2)=(n:Int)+2:=by rw [IntKind.wrap_i64];omega
   have a3:IntKind.i64.wrap ((q:Int)*(k:Int))=(qk:Int):=by rw [show((q:Int)*(k:Int))=(qk:Int) by rw [hqk];exact(Int.natCast_mul q k).symm,IntKind.wrap_i64];omega
   have a4:IntKind.i64.wrap ((n:Int)+2+(qk:Int))=(n:Int)+2+(qk:Int):=by rw [IntKind.wrap_i64];omega
   have a5:IntKind.i64.wrap ((n:Int)+2+(qk:Int)+(j:Int))=(A:Int):=by rw [IntKind.wrap_i64];omega
   have hL1:LN<=100:=by omega
   have HRD:=Lib.hid RD;have HR3:=Lib.hid hR2;have Hk2:=Lib.hid hk2;have Hl2:=Lib.hid hl2;have Hfl:=Lib.hid hfl;have Hfm:=Lib.hid hfm;have Hm:=Lib.hid hm;have Hlen:=Lib.hid hlen;have HLN:=Lib.hid hLN;have Hxs:=Lib.hid hxs
   clear RD hR2 hk2 hl2 hZ hR hQ hlen hnl hwh hf2 hA2 hAe hqk hqk2 hLN hxs hfl hfm hm
   go_upto_region 8 with fail
   refine wp_region_L ((λu=>u.cell? ⟨B.I.tb,B.I.pre.length+11,none⟩=some (.slice la LN lc))) 21 (by kernel_rfl) ?hS0L1 ?_
   case hS0L1=>
    (try dsimp only)
    (first|exact x11|exact z0|exact t0|exact(((Gr.new w6 _)).cell lb6).trans z0)
   intro hS hcl
   refine wpAnyL_take (i:=0) (v:=?tv0L1) 22 rfl (by kernel_rfl) (by kernel_rfl) (by kernel_rfl) (by kernel_rfl) (by kernel_rfl) hcl (by first|exact λ_ _ _ h=>h|exact λ_ _ _ h=>HQp.out _ _ _ _ h) (Or.inl ⟨by rfl,?th0L1⟩) hS ?tr0L1
   (case th0L1=>(intro w hSw;(try dsimp only at hSw);go_simp;try with_reducible rfl))
   clear hcl;intro hcl
   (try simp only [Act.put,zq1,zq2,zq3,zq4,zq5,zq6])
   refine wpAnyL_take (i:=1) (v:=?tv1L1) 22 rfl (by kernel_rfl) (by kernel_rfl) (by kernel_rfl) (by kernel_rfl) (by kernel_rfl) hcl (by first|exact λ_ _ _ h=>h|exact λ_ _ _ h=>HQp.out _ _ _ _ h) (Or.inl ⟨by rfl,?th1L1⟩) hS ?tr1L1
   (case th1L1=>(intro w hSw;(try dsimp only at hSw);go_simp;try with_reducible rfl))
   clear hcl;intro hcl
   (try simp only [Act.put,zq1,zq2,zq3,zq4,zq5,zq6])
   refine wpAnyL_take (i:=2) (v:=?tv2L1) 22 rfl (by kernel_rfl) (by kernel_rfl) (by kernel_rfl) (by kernel_rfl) (by kernel_rfl) hcl (by first|exact λ_ _ _ h=>h|exact λ_ _ _ h=>HQp.out _ _ _ _ h) (Or.inl ⟨by rfl,?th2L1⟩) hS ?tr2L1
   (case th2L1=>(intro w hSw;(try dsimp only at hSw);go_simp;try with_reducible rfl))
   clear hcl;intro hcl
   (try simp only [Act.put,zq1,zq2,zq3,zq4,zq5,zq6])
   refine wpAnyL_take (i:=3) (v:=?tv3L1) 22 rfl (by kernel_rfl) (by kernel_rfl) (by kernel_rfl) (by kernel_rfl) (by kernel_rfl) hcl (by first|exact λ_ _ _ h=>h|exact λ_ _ _ h=>HQp.out _ _ _ _ h) (Or.inl ⟨by rfl,?th3L1⟩) hS ?tr3L1
   (case th3L1=>(intro w hSw;(try dsimp only at hSw);go_simp;try with_reducible rfl))
   clear hcl;intro hcl
   (try simp only [Act.put,zq1,zq2,zq3,zq4,zq5,zq6])
   refine wpAnyL_take (i:=4) (v:=?tv4L1) 22 rfl (by kernel_rfl) (by kernel_rfl) (by kernel_rfl) (by kernel_rfl) (by kernel_rfl) hcl (by first|exact λ_ _ _ h=>h|exact λ_ _ _ h=>HQp.out _ _ _ _ h) (Or.inl ⟨by rfl,?th4L1⟩) hS ?tr4L1
   (case th4L1=>(intro w hSw;(try dsimp only at hSw);go_simp;try with_reducible rfl))
   clear hcl;intro hcl
   (try simp only [Act.put,zq1,zq2,zq3,zq4,zq5,zq6])
   refine wpAnyL_take (i:=5) (v:=?tv5L1) 22 rfl (by kernel_rfl) (by kernel_rfl) (by kernel_rfl) (by kernel_rfl) (by kernel_rfl) hcl (by first|exact λ_ _ _ h=>h|exact λ_ _ _ h=>HQp.out _ _ _ _ h) (Or.inl ⟨by rfl,?th5L1⟩) hS ?tr5L1
   (case th5L1=>(intro w hSw;(try dsimp only at hSw);go_simp;try with_reducible rfl))
   clear hcl;intro hcl
   (try simp only [Act.put,zq1,zq2,zq3,zq4,zq5,zq6])
   refine wpAnyL_take (i:=6) (v:=?tv6L1) 22 rfl (by kernel_rfl) (by kernel_rfl) (by kernel_rfl) (by kernel_rfl) (by kernel_rfl) hcl (by first|exact λ_ _ _ h=>h|exact λ_ _ _ h=>HQp.out _ _ _ _ h) (Or.inl ⟨by rfl,?th6L1⟩) hS ?tr6L1
   (case th6L1=>(intro w hSw;(try dsimp only at hSw);go_simp;try with_reducible rfl))
   clear hcl;intro hcl
   (try simp only [Act.put,zq1,zq2,zq3,zq4,zq5,zq6])
   refine wpAnyL_take (i:=7) (v:=?tv7L1) 22 rfl (by kernel_rfl) (by kernel_rfl) (by kernel_rfl) (by kernel_rfl) (by kernel_rfl) hcl (by first|exact λ_ _ _ h=>h|exact λ_ _ _ h=>HQp.out _ _ _ _ h) (Or.inl ⟨by rfl,?th7L1⟩) hS ?tr7L1
   (case th7L1=>(intro w hSw;(try dsimp only at hSw);go_simp;try with_reducible rfl))
   clear hcl;intro hcl
   (try simp only [Act.put,zq1,zq2,zq3,zq4,zq5,zq6])
   refine wpAnyL_take (i:=8) (v:=?tv8L1) 22 rfl (by kernel_rfl) (by kernel_rfl) (by kernel_rfl) (by kernel_rfl) (by kernel_rfl) hcl (by first|exact λ_ _ _ h=>h|exact λ_ _ _ h=>HQp.out _ _ _ _ h) (Or.inl ⟨by rfl,?th8L1⟩) hS ?tr8L1
   (case th8L1=>(intro w hSw;(try dsimp only at hSw);go_simp;try with_reducible rfl))
   clear hcl;intro hcl
   (try simp only [Act.put,zq1,zq2,zq3,zq4,zq5,zq6])
   refine wpAnyL_take (i:=9) (v:=?tv9L1) 22 rfl (by kernel_rfl) (by kernel_rfl) (by kernel_rfl) (by kernel_rfl) (by kernel_rfl) hcl (by first|exact λ_ _ _ h=>h|exact λ_ _ _ h=>HQp.out _ _ _ _ h) (Or.inl ⟨by rfl,?th9L1⟩) hS ?tr9L1
   (case th9L1=>(intro w hSw;(try dsimp only at hSw);go_simp;try with_reducible rfl))
   clear hcl;intro hcl
   (try simp only [Act.put,zq1,zq2,zq3,zq4,zq5,zq6])
   refine wpAnyL_take (i:=10) (v:=?tv10L1) 22 rfl (by kernel_rfl) (by kernel_rfl) (by kernel_rfl) (by kernel_rfl) (by kernel_rfl) hcl (by first|exact λ_ _ _ h=>h|exact λ_ _ _ h=>HQp.out _ _ _ _ h) (Or.inl ⟨by rfl,?th10L1⟩) hS ?tr10L1
   (case th10L1=>(intro w hSw;(try dsimp only at hSw);go_simp;try with_reducible rfl))
   clear hcl;intro hcl
   (try simp only [Act.put,zq1,zq2,zq3,zq4,zq5,zq6])
   refine wpAnyL_take (i:=11) (v:=?tv11L1) 22 rfl (by kernel_rfl) (by kernel_rfl) (by kernel_rfl) (by kernel_rfl) (by kernel_rfl) hcl (by first|exact λ_ _ _ h=>h|exact λ_ _ _ h=>HQp.out _ _ _ _ h) (Or.inl ⟨by rfl,?th11L1⟩) hS ?tr11L1
   (case th11L1=>(intro w hSw;(try dsimp only at hSw);go_simp;try with_reducible rfl))
   clear hcl;intro hcl
   (try simp only [Act.put,zq1,zq2,zq3,zq4,zq5,zq6])
   refine wpAnyL_take (i:=12) (v:=?tv12L1) 22 rfl (by kernel_rfl) (by kernel_rfl) (by kernel_rfl) (by kernel_rfl) (by kernel_rfl) hcl (by first|exact λ_ _ _ h=>h|exact λ_ _ _ h=>HQp.out _ _ _ _ h) (Or.inl ⟨by rfl,?th12L1⟩) hS ?tr12L1
   (case th12L1=>(intro w hSw;(try dsimp only at hSw);go_simp;try with_reducible rfl))
   clear hcl;intro hcl
   (try simp only [Act.put,zq1,zq2,zq3,zq4,zq5,zq6])
   refine wpAnyL_take (i:=13) (v:=?tv13L1) 22 rfl (by kernel_rfl) (by kernel_rfl) (by kernel_rfl) (by kernel_rfl) (by kernel_rfl) hcl (by first|exact λ_ _ _ h=>h|exact λ_ _ _ h=>HQp.out _ _ _ _ h) (Or.inl ⟨by rfl,?th13L1⟩) hS ?tr13L1
   (case th13L1=>(intro w hSw;(try dsimp only at hSw);go_simp;try with_reducible rfl))
   clear hcl;intro hcl
   (try simp only [Act.put,zq1,zq2,zq3,zq4,zq5,zq6])
   refine wpAnyL_take (i:=14) (v:=?tv14L1) 22 rfl (by kernel_rfl) (by kernel_rfl) (by kernel_rfl) (by kernel_rfl) (by kernel_rfl) hcl (by first|exact λ_ _ _ h=>h|exact λ_ _ _ h=>HQp.out _ _ _ _ h) (Or.inl ⟨by rfl,?th14L1⟩) hS ?tr14L1
   (case th14L1=>(intro w hSw;(try dsimp only at hSw);go_simp;try with_reducible rfl))
   clear hcl;intro hcl
   (try simp only [Act.put,zq1,zq2,zq3,zq4,zq5,zq6])
   refine wpAnyL_take (i:=15) (v:=?tv15L1) 22 rfl (by kernel_rfl) (by kernel_rfl) (by kernel_rfl) (by kernel_rfl) (by kernel_rfl) hcl (by first|exact λ_ _ _ h=>h|exact λ_ _ _ h=>HQp.out _ _ _ _ h) (Or.inl ⟨by rfl,?th15L1⟩) hS ?tr15L1
   (case th15L1=>(intro w hSw;(try dsimp only at hSw);go_simp;try with_reducible rfl))
   clear hcl;intro hcl
   (try simp only [Act.put,zq1,zq2,zq3,zq4,zq5,zq6])
   refine wpAnyL_one (i:=16) (by kernel_rfl) rfl hcl (λK' hK=>?_)
   have HK:=Lib.hid hK;clear hK
   ((rw [if_pos (by kernel_rfl)]);(try simp only [zq1,zq2,zq3]);go_big_op)
   (first|(go_at_call 88;refine(HRD.out _ (Gr.refl _).drew).mono ?_;rintro e w6 ⟨rfl,hQ6,hC6⟩;have z0:=hQ6.cells.1;have lb6:=hQ6.cells.2.2.2.1;have hr6:w6.ownsRow 0 46 1 (.slice la LN lc) LN xs:=(by have h9:w6.ownsRow 0 46 1 (.slice la LN lc) l.length (l.map u64V):=hQ6.cells.2.2.2.2;rw [<-HLN.out,<-Hxs.out] at h9;exact h9);have hB6:=hQ6.blk)|(refine step_append_lies _ (by rfl) _ _ _ (by rfl) 0 46 k0 _ 1 8 Tryz.underlying28 hk0 hu0 hu1 hu2 rfl (by omega) _ _ _ (by rfl) (hr6.alloc _) ⟨w6.heap.size,0,none⟩ 1 1 [.int .u64 (v:Int)] (by rfl) (by rfl) (World.news_of_block (cs:=#[.int .u64 (v:Int)]) (t:=46) (fr:=(0,0)) (heap_alloc_new w6 _)) (by simp [Value.oneCell']) (by omega) (by unfold maxLen;(try dsimp only);omega) (by(try dsimp only);omega) (by simp) (w6.heap.size+1) (by simp) ?_;intro g8 cp8 w8 hown8 hgrow8 hat8 hlt8;have t0:=((hgrow8.cell_far _ (by simp;omega) (λe=>NS.out _ e.symm rfl)).trans ((((Gr.new w6 _)).cell lb6).trans z0));have tf:w8.frozen? ⟨B.I.tb,B.I.pre.length+11,none⟩=false:=(by obtain⟨cs,h9⟩:=hB6;exact frozen_blk ((hgrow8.block _ (by simp;omega) (λe=>NS.out _ e.symm rfl)).trans ((((Gr.new w6 _)).block _ lb6).trans h9)) _)))
   refine HK.out _ _ ?hS16L1 (λhcl=>?_)
   case hS16L1=>
    intro _
    (try dsimp only)
    (first|exact x11|exact z0|exact t0|exact(((Gr.new w6 _)).cell lb6).trans z0)
   clear HK
   (try simp only [Act.put,zq1,zq2,zq3,zq4,zq5,zq6])
   refine wpAnyL_one (i:=17) (by kernel_rfl) rfl hcl (λK' hK=>?_)
   have HK:=Lib.hid hK;clear hK
   ((rw [if_pos (by kernel_rfl)]);(try simp only [zq1,zq2,zq3]);first|go_big_move|go_big_op)
   refine HK.out _ _ ?hS17L1 (λhcl=>?_)
   case hS17L1=>
    intro _
    (try dsimp only)
    (first|exact x11|exact z0|exact t0|exact(((Gr.new w6 _)).cell lb6).trans z0)
   clear HK
   (try simp only [Act.put,zq1,zq2,zq3,zq4,zq5,zq6])
   refine wpAnyL_one (i:=18) (by kernel_rfl) rfl hcl (λK' hK=>?_)
   have HK:=Lib.hid hK;clear hK
   (first|(go_at_call 88;refine(HRD.out _ (Gr.refl _).drew).mono ?_;rintro e w6 ⟨rfl,hQ6,hC6⟩;have z0:=hQ6.cells.1;have lb6:=hQ6.cells.2.2.2.1;have hr6:w6.ownsRow 0 46 1 (.slice la LN lc) LN xs:=(by have h9:w6.ownsRow 0 46 1 (.slice la LN lc) l.length (l.map u64V):=hQ6.cells.2.2.2.2;rw [<-HLN.out,<-Hxs.out] at h9;exact h9);have hB6:=hQ6.blk)|(refine step_append_lies _ (by rfl) _ _ _ (by rfl) 0 46 k0 _ 1 8 Tryz.underlying28 hk0 hu0 hu1 hu2 rfl (by omega) _ _ _ (by rfl) (hr6.alloc _) ⟨w6.heap.size,0,none⟩ 1 1 [.int .u64 (v:Int)] (by rfl) (by rfl) (World.news_of_block (cs:=#[.int .u64 (v:Int)]) (t:=46) (fr:=(0,0)) (heap_alloc_new w6 _)) (by simp [Value.oneCell']) (by omega) (by unfold maxLen;(try dsimp only);omega) (by(try dsimp only);omega) (by simp) (w6.heap.size+1) (by simp) ?_;intro g8 cp8 w8 hown8 hgrow8 hat8 hlt8;have t0:=((hgrow8.cell_far _ (by simp;omega) (λe=>NS.out _ e.symm rfl)).trans ((((Gr.new w6 _)).cell lb6).trans z0));have tf:w8.frozen? ⟨B.I.tb,B.I.pre.length+11,none⟩=false:=(by obtain⟨cs,h9⟩:=hB6;exact frozen_blk ((hgrow8.block _ (by simp;omega) (λe=>NS.out _ e.symm rfl)).trans ((((Gr.new w6 _)).block _ lb6).trans h9)) _)))
   refine HK.out _ _ ?hS18L1 (λhcl=>?_)
   case hS18L1=>
    intro _
    (try dsimp only)
    (first|exact x11|exact z0|exact t0|exact(((Gr.new w6 _)).cell lb6).trans z0)
   clear HK
   (try simp only [Act.put,zq1,zq2,zq3,zq4,zq5,zq6])
   refine wpAnyL_one (i:=19) (by kernel_rfl) rfl hcl (λK' hK=>?_)
   have HK:=Lib.hid hK;clear hK
   ((rw [if_pos (by kernel_rfl)]);(try simp only [zq1,zq2,zq3]);first|go_big_move|go_big_op)
   refine HK.out _ _ ?hS19L1 (λhcl=>?_)
   case hS19L1=>
    intro _
    (try dsimp only)
    (first|exact x11|exact z0|exact t0|exact(((Gr.new w6 _)).cell lb6).trans z0)
   clear HK
   (try simp only [Act.put,zq1,zq2,zq3,zq4,zq5,zq6])
   refine wpAnyL_one (i:=20) (by kernel_rfl) rfl hcl (λK' hK=>?_)
   have HK:=Lib.hid hK;clear hK
   ((rw [if_pos (by kernel_rfl)]);(try simp only [zq1,zq2,zq3]);first|go_big_move|go_big_op)
   refine HK.out _ _ ?hS20L1 (λhcl=>?_)
   case hS20L1=>
    intro _
    (try dsimp only)
    (first|exact x11|exact z0|exact t0|exact(((Gr.new w6 _)).cell lb6).trans z0)
   clear HK
   (try simp only [Act.put,zq1,zq2,zq3,zq4,zq5,zq6])
   refine wpAnyL_one (i:=21) (by kernel_rfl) rfl hcl (λK' hK=>?_)
   have HK:=Lib.hid hK;clear hK
   ((rw [if_pos (by kernel_rfl)]);(try simp only [zq1,zq2,zq3]);first|go_big_move|go_big_op)
   refine HK.out _ _ (λh=>by cases h.symm.trans (by kernel_rfl:_=true)) (λ_=>wpAnyL_done (by kernel_rfl) ?_ _)
   clear HK
   (try clear hS)
   have hg6:Chg (λg=>(Value.slice la LN lc).ownBlock=some g) w6 w8:=((Chg.refl _ w6).alloc _).grown hgrow8 (λg hg=>.inl hg)
   have hQ9:RAtQ B (w8.setCell ⟨B.I.tb,B.I.pre.length+11,none⟩ (.slice (some ⟨g8,0,none⟩) (LN+1) cp8)) { t2 with list:=l++[v] } r2 (.slice (some ⟨g8,0,none⟩) (LN+1) cp8):=hQ6.push (g:=g8) hg6 v rfl (by rw [show({ t2 with list:=l }:TapeP).list=l from rfl,Hfl.out,Hfm.out];exact hown8) (by rcases hat8 with h9|h9;exact .inl h9;exact .inr (by have h8:g8=w6.heap.size+1:=h9;omega)) hlt8
   have HQ9:=Lib.hid hQ9
   clear hQ9 hg6 hQ6 hC6 z0 lb6 hr6 hB6 t0 tf hown8 hgrow8 hat8 hlt8 x11 NS
   go_wp2
   go_roundw
   case rel=>exact⟨j+1,t2,r2,l++[v],_,by omega,by go_num,HQ9.out,by rw [Hfl.out,HLN.out,Hlen.out],by rw [show k - (j+1)=m by have:=Hm.out;omega];exact HR3.out,Hl2.out,Hk2.out.1,Hk2.out.2⟩
   case measure=>simp [intOf]<;>omega
  ·obtain rfl:j=k:=by omega
   have l1:¬ (j:Int)<(j:Int):=by omega
   have hA:=hQ.fin (by show l.length<=1000000;omega)
   obtain⟨A,hAe⟩:∃ A,A=1+q:=⟨_,rfl⟩
   have A1:=tadd_r hA (A:Int) 1 (by decide)
   rw [accP_list] at A1
   have hR2:R=((accP 3 (A:Int) 1 0 tj rj).2.1.out ⟨(accP 3 (A:Int) 1 0 tj rj).2.1.err,(accP 3 (A:Int) 1 0 tj rj).2.1.val,l,[2*(accP 3 (A:Int) 1 0 tj rj).2.1.ticks.getD 0 0],(accP 3 (A:Int) 1 0 tj rj).2.1.priv⟩,(accP 3 (A:Int) 1 0 tj rj).2.2):=by
    rw [hR,Nat.sub_self,hAe]
    show((accP 3 ((1+q:Nat):Int) 1 0 tj rj).2.1.out ⟨_,_,l,[2*(accP 3 ((1+q:Nat):Int) 1 0 tj rj).2.1.ticks.getD 0 0],_⟩,effP id _ _)=_
    rw [effP_id]
   have hk2:=accP_tick0 3 (A:Int) 1 0 tj rj hf2
   obtain⟨Z,hZ⟩:∃ Z,Z=accP 3 (A:Int) 1 0 tj rj:=⟨_,rfl⟩
   rw [<-hZ] at A1 hR2 hk2
   obtain⟨v,t2,r2⟩:=Z
   simp only at A1 hR2 hk2
   rw [hk2.1,hwh] at hR2
   have hT:R=({ t2 with list:=l,key:=[2*wh] },r2):=hR2
   have a1:IntKind.i64.wrap (1+(q:Int))=(A:Int):=by rw [IntKind.wrap_i64];omega
   have a2:IntKind.i64.wrap (2*wh)=2*wh:=by have:=Hw9.out;rw [IntKind.wrap_i64];omega
   have HA1:=Lib.hid A1
   subst hT
   clear A1 hR2 hk2 hZ hR hQ hlen hnl hwh hf2 hA hAe
   go_upto_region 11 with(go_at_call 91;refine HA1.out.mono ?_;rintro e w5 ⟨rfl,h5⟩)
   obtain⟨_,_,_,_,_,x12⟩:∃ G K PV LV KV,w5.cell? ⟨B.I.tb,B.I.pre.length+12,none⟩=some KV:=by obtain⟨G,K,PV,LV,KV,h9⟩:=h5.get (i:=12) (by omega);exact⟨G,K,PV,LV,KV,h9⟩
   have xf:=h5.frozen (B.I.pre.length+12)
   have ltb:=h5.lt
   have H5:=Lib.hid h5
   clear h5
   go_wp2
   (first|go_end0|((try simp only [Exit.inBlock,Exit.then]);refine bodyPost_ret (results_none rfl _ _ _) rfl ?_))
   refine⟨rfl,?_⟩
   have hnew:RAtL B (w5.alloc (.cells #[.int .i64 (2*wh)] 3)) { t2 with list:=l } r2 (.slice (some ⟨w5.heap.size,0,none⟩) 1 1) [2*wh]:=H5.out.newL (l:=[2*wh]) (c:=1) (Gr.new _ _) ⟨by unfold maxLen;simp,λi hi=>⟨w5.heap.size,0,rfl,by simp,λf hf=>by
    obtain rfl:f=0:=by omega
    rw [cell_new]
    obtain rfl:i=0:=by simpa using hi
    rfl⟩⟩ (λe=>by cases e) (λb off e=>by cases e;exact Nat.le_refl _)
   have h9:=hnew.putKey
   rw [World.setCell_alloc_past _ _ _ _ ltb] at h9
   exact h9
end
section

/- A list of words is copied into a slice of its own, and one word more put behind it, at the list of a plain region. -/
open Go.RowKit
theorem run_append_zeroU (w:World) (ty:TypeId) (b:Nat) (oa:Option Addr) (oc:Nat):(Builtin.append_ #[28,28] ty #[.slice (some ⟨b,0,none⟩) 0 0,.slice oa 0 oc]).run Tryz.prog w=.ok (.slice (some ⟨b,0,none⟩) 0 0) w:=by
 obtain⟨j0,hj0,hy0,hy1,hy2⟩:=info_parts uint64_info0
 cases oa<;>simp [Builtin.append_,run_underlying (P:=Tryz.prog) Tryz.underlying28,sizeOf,typeInfo,hj0,Builtin.lenOf,Builtin.firstCells,storeCells,loadCells,loadCellsFrom]
theorem wpList_copy_u64 {ops:Array Oper} {rest:List Oper} {o:Oper} {a:Act} {w:World} {Q:Exit->Act->World->Prop} (hgd:o.guard=none) (s x:Operand) (ho:o.op=.call { callee:=.builtin .append,args:=#[s,x],argTypes:=#[28,28] })
  (z:Nat) (hz:w.heap[z]?=some (.cells #[] 46 (0,0))) (oa:Option Addr) (oc:Nat) (l:List Nat) (hl:l.length<=1000000) (hs:a.eval s=.slice (some ⟨z,0,none⟩) 0 0) (hx:a.eval x=.slice oa l.length oc) (hsl:SlAt w oa l.length 1 (u64G l))
  (h:∀(g vc:Nat) (w':World),w'.ownsRow z 46 1 (.slice (some ⟨g,0,none⟩) l.length vc) l.length (l.map u64V)->Below z w w'->wpList Tryz.prog ops Q rest (a.put o.dst (.slice (some ⟨g,0,none⟩) l.length vc)) w') :
  wpList Tryz.prog ops Q (o::rest) a w:=by
 rcases Nat.eq_zero_or_pos l.length with h0|h0
 ·obtain rfl:=List.eq_nil_of_length_eq_zero h0
  refine wpList_plain hgd λ_ hK=>?_
  have hrun:=run_append_zeroU w o.type z oa oc
  have h9:=h z 0 w ⟨by decide,.inr ⟨z,0,#[],rfl,Nat.le_refl _,hz,by simp⟩⟩ (Below.refl _ _)
  have hx':a.eval x=.slice oa 0 oc:=hx
  unfold Oper.wp
  simp [execOp,ho,resolve,invoke,builtin,hs,hx',hrun,Result.andThen]
  exact hK _ _ h9
 ·obtain⟨j0,hj0,hy0,hy1,hy2⟩:=info_parts uint64_info0
  obtain⟨b0,off0,e0,hb0⟩:=hsl.lt h0
  refine wpList_append_lies w hgd s x 28 ho z 46 j0 (.int .u64 0) 1 8 Tryz.underlying28 hj0 hy0 hy1 hy2 rfl (by decide) _ 0 [] hs ⟨by decide,.inr ⟨z,0,#[],rfl,Nat.le_refl _,hz,by simp⟩⟩ ⟨b0,off0,none⟩ l.length oc (l.map u64V) (by rw [<-e0];exact hx) (by simp) ?_ ?_ h0 ?_ ?_ (Nat.le_of_lt (blk_lt hz)) w.heap.size rfl ?_
  ·intro j u hu
   have hj:j<l.length:=by
    rcases Nat.lt_or_ge j l.length with h9|h9
    ·exact h9
    ·rw [List.getElem?_eq_none (by simpa using h9)] at hu;cases hu
   obtain⟨b9,off9,e9,_,hc9⟩:=hsl.2 j hj
   rw [e0] at e9;cases e9
   have:=hc9 0 (by omega)
   rw [Nat.mul_one,Nat.add_zero] at this
   have e8:(⟨b0,off0,none⟩:Addr).add j=⟨b0,off0+j,none⟩:=by unfold Addr.add;split<;>simp_all
   rw [e8,this]
   simpa [u64G,u64V,List.getD_eq_getElem?_getD,hj] using hu
  ·simp [Value.oneCell',u64V]
  ·unfold maxLen;omega
  ·omega
  ·intro g cap w' hown hgr hat _
   simp only [Nat.zero_add,List.nil_append] at hown
   simp only [Nat.zero_add]
   have hc:Chg (λb=>b=z) w w':=(Chg.refl _ w).grown hgr (λk hk=>.inl (by cases hk;rfl))
   exact h g cap w' hown (hc.below (λk e=>Nat.le_of_eq e.symm) (Nat.le_of_lt (blk_lt hz)))
theorem wpList_push_u64 {ops:Array Oper} {rest:List Oper} {o:Oper} {a:Act} {w:World} {Q:Exit->Act->World->Prop} (hgd:o.guard=none) (s x:Operand) (ho:o.op=.call { callee:=.builtin .append,args:=#[s,x],argTypes:=#[28,28] })
  (v:Value) (l:List Nat) (N:Nat) (hN:N=l.length) (hl:N<=1000000) (hs:a.eval s=v) (hown:w.ownsRow 0 46 1 v N (l.map u64V)) (b:Nat) (k:Nat) (hx:a.eval x=.slice (some ⟨b,0,none⟩) 1 1) (hb:w.heap[b]?=some (.cells #[u64V k] 46 (0,0)))
  (h:∀(g vc M:Nat) (w':World),M=N+1->w'.ownsRow 0 46 1 (.slice (some ⟨g,0,none⟩) M vc) M ((l++[k]).map u64V)->Chg (λb=>v.ownBlock=some b) w w'->(v.ownBlock=some g∨g=w.heap.size)->g<w'.heap.size->wpList Tryz.prog ops Q rest (a.put o.dst (.slice (some ⟨g,0,none⟩) M vc)) w') :
  wpList Tryz.prog ops Q (o::rest) a w:=by
 obtain⟨j0,hj0,hy0,hy1,hy2⟩:=info_parts uint64_info0
 refine wpList_append_lies w hgd s x 28 ho 0 46 j0 (.int .u64 0) 1 8 Tryz.underlying28 hj0 hy0 hy1 hy2 rfl (by decide) v N (l.map u64V) hs hown ⟨b,0,none⟩ 1 1 [u64V k] hx rfl ?_ ?_ (by decide) ?_ ?_ (Nat.zero_le _) w.heap.size rfl ?_
 ·intro j u hu
  have e8:(⟨b,0,none⟩:Addr).add j=⟨b,j,none⟩:=addr_add0 b j
  rw [e8,cell_blk hb]
  simpa [u64V] using hu
 ·simp [Value.oneCell',u64V]
 ·unfold maxLen;omega
 ·omega
 ·intro g cap w' hown' hgr hat hlt
  have hc:Chg (λb=>v.ownBlock=some b) w w':=(Chg.refl _ w).grown hgr (λk hk=>.inl hk)
  have e2:l.map u64V++[u64V k]=(l++[k]).map u64V:=by simp
  rw [e2] at hown'
  exact h g cap (N+1) w' rfl hown' hc hat hlt
end
end Go.Proofs.YtfkokppncipgnaaGreat
