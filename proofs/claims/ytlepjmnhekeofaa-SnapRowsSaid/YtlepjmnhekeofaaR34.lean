/- Layer 15: a scan's step, whatever it is at; one that reads. -/
import Derived.Test.YtlepjmnhekeofaaR33
set_option maxRecDepth 100000
set_option linter.unusedVariables false
set_option linter.unusedSimpArgs false
set_option linter.unnecessarySimpa false
namespace Go.Proofs.Ytlepjmnhekeofaa
section
open Go.RowKit
def ScLive (n:Nat) (wd:WD) (s:ScD):Prop:=s.pc<=2/\s.at_<n/\(s.pc=0->s.rounds<=999/\s.list=[]/\(s.at_+1=n->1<=s.rounds->∀ d f,scDif s.old (s.now.set s.at_ (taGot wd s.at_)) n 0 s.diff=(d,some f)->f<1000000/\wd.traces (f:Int)≠[]))/\(1<=s.pc->s.list.length=s.at_)/\(s.pc=1->s.now.getD s.at_ 0<1000000)/\(s.pc=2->s.from_<1000000)
structure ScAt (w:World) (bs bP:Nat) (lv:Value) (s:ScD):Prop where
 blk:ScBlk w bs bP s lv
 row:w.ownsRow 0 40 1 lv s.list.length (s.list.map u64V)
 nil:s.pc=0->lv=.slice none 0 0
 val:∀ x∈s.list,x<18446744073709551616
theorem ScAt.chg {w w':World} {S:Nat->Prop} {bs bP:Nat} {lv:Value} {s:ScD} (h:ScAt w bs bP lv s) (hc:Chg S w w') (h1:¬ S bs) (h2:∀ g,lv.ownBlock=some g->¬ S g):ScAt w' bs bP lv s:=⟨h.blk.chg hc h1,row_chg h.row hc h2,h.nil,h.val⟩
theorem scPass_val {B:Nat} (hB:0<B) (n:Nat):∀(m:Nat) (s:ScD),(∀ x∈s.list,x<B)->∀ x∈(scPass n m s).list,x<B
 | 0,s,h=>h
 | m+1,s,h=>by
  unfold scPass
  by_cases hc:s.at_<n/\s.now.getD s.at_ 0=0
  ·rw [if_pos hc]
   refine scPass_val hB n m _ ?_
   intro x hx
   rcases List.mem_append.1 hx with hx|hx
   ·exact h x hx
   ·rw [List.mem_singleton.1 hx];exact hB
  ·rw [if_neg hc];exact h
theorem scHeld_val {B:Nat} (hB:0<B) (n:Nat) (wd:WD) (s:ScD) (h:∀ x∈s.list,x<B):∀ x∈(scHeld n wd s).list,x<B:=by
 unfold scHeld
 by_cases h1:s.rounds+1=1
 ·rw [if_pos h1];exact h
 ·rw [if_neg h1]
  by_cases h2:s.old=s.now
  ·rw [if_pos h2];exact scPass_val hB n n _ h
  ·rw [if_neg h2]
   obtain⟨d,o⟩:=scDif s.old s.now n 0 s.diff
   cases o<;>exact h
theorem scGo_val {B:Nat} (hB:0<B) (n:Nat) (wd:WD) (s:ScD) (h:∀ x∈s.list,x<B) (hg:taGot wd (scAddr s)<B):∀ x∈(scGo n wd s).list,x<B:=by
 have ha:∀ x∈s.list++[taGot wd (scAddr s)],x<B:=by
  intro x hx
  rcases List.mem_append.1 hx with hx|hx
  ·exact h x hx
  ·rw [List.mem_singleton.1 hx];exact hg
 unfold scGo scNext
 by_cases h0:s.pc=0
 ·rw [if_pos h0]
  by_cases h1:s.at_+1=n
  ·rw [if_pos h1];exact scHeld_val hB n wd _ h
  ·rw [if_neg h1];exact h
 ·rw [if_neg h0]
  by_cases h1:s.pc=1
  ·rw [if_pos h1];exact scPass_val hB n n _ ha
  ·rw [if_neg h1];exact ha
theorem scan_any (n k:Nat) (us:List Nat) (hn:n<=16) (w:World) (Mut:Nat->Prop) (I:WIds) (N:Nat) (wd:WD) (b bP:Nat) (s:ScD) (lv:Value) (hw:WorldAt w Mut I N wd) (hbM:Mut b/\¬ WSet I b) (hlM:∀ g,lv.ownBlock=some g->Mut g/\¬ WSet I g/\g≠bP/\g≠b) (h:ScAt w b bP lv s) (hne:bP≠b) (hPW:¬ WSet I bP) (hP:w.heap[bP]?=some (.cells (snapL n k us).toArray 100 (0,0))) (hl:ScLive n wd s) (hcn:wd.mem.c.all+1<1000000000000) :
  Calls Try.prog 170 #[.pointer (some ⟨b,0,none⟩),.pointer (some ⟨I.bW,0,none⟩)] w λe w'=>ScanTo w w' Mut I N (scWd wd s) b bP lv (scGo n wd s) e:=by
 obtain⟨hb,hrow,hnil,_⟩:=h
 obtain⟨h2,hat,h0,hla,h1,hf⟩:=hl
 by_cases c0:s.pc=0
 ·obtain⟨hr9,hnl,hlive⟩:=h0 c0
  have e:=hnil c0
  subst e
  exact scan_collect n k us hn w Mut I N wd b bP s hw hbM hb hne hPW hP c0 hat hr9 hnl hw.nowlt hcn hlive
 ·by_cases c1:s.pc=1
  ·exact scan_value n k us hn w Mut I N wd b bP s lv hw hbM hlM hb hrow hne hPW hP c1 hat (hla (by omega)) hw.nowlt hcn (h1 c1)
  ·exact scan_borrow n k us hn w Mut I N wd b bP s lv hw hbM hlM hb hrow hne hPW hP (by omega) hat (hla (by omega)) hw.nowlt hcn (hf (by omega))
def snRd (bs:Nat) (kv:Value):Array Value:=#[.pointer (some ⟨bs,0,none⟩),kv]
def SrTo (w w':World) (Mut:Nat->Prop) (I:WIds) (N:Nat) (wd:WD) (n b bs bP:Nat) (lv kv:Value) (s:ScD) (e:Ending):Prop:=
 e=.returned (.bool (decide ((scGo n wd s).pc=3)))/\Chg (λk=>WSet I k∨k=b∨k=bs∨lv.ownBlock=some k) w w'/\∃ lv' kv',WFrom w' Mut I N (scWd wd s) lv'/\w'.heap[b]?=some (.cells (snRd bs kv') 221 (0,0))/\ScAt w' bs bP lv' (scGo n wd s)/\(∀ g,lv'.ownBlock=some g->(lv.ownBlock=some g∨w.heap.size<=g)/\g≠bs/\g≠b/\g<w'.heap.size)/\
   (if (scGo n wd s).pc=3 then Lst w' Mut kv' [2*(scGo n wd s).moment,2*(wd.now:Int)] else kv'=kv)
set_option maxHeartbeats 8000000 in
theorem srd_step (n k:Nat) (us:List Nat) (hn:n<=16) (w:World) (Mut:Nat->Prop) (I:WIds) (N:Nat) (wd:WD) (b bs bP:Nat) (s:ScD) (lv kv:Value) (hw:WorldAt w Mut I N wd) (hbk:w.heap[b]?=some (.cells (snRd bs kv) 221 (0,0))) (hbM:Mut b/\¬ WSet I b) (hsM:Mut bs/\¬ WSet I bs) (hlM:∀ g,lv.ownBlock=some g->Mut g/\¬ WSet I g/\g≠bP/\g≠bs/\g≠b) (h:ScAt w bs bP lv s) (hne:bP≠b/\bP≠bs/\b≠bs) (hPW:¬ WSet I bP) (hP:w.heap[bP]?=some (.cells (snapL n k us).toArray 100 (0,0))) (hl:ScLive n wd s) (hm:(scGo n wd s).pc=3->0<=(scGo n wd s).moment/\(scGo n wd s).moment<1000000000) (hcn:wd.mem.c.all+1<1000000000000) :
  Calls Try.prog 168 #[.pointer (some ⟨b,0,none⟩),.pointer (some ⟨I.bW,0,none⟩)] w λe w'=>SrTo w w' Mut I N wd n b bs bP lv kv s e:=by
 have SC:=Lib.hid (scan_any n k us hn w Mut I N wd bs bP s lv hw hsM (λg hg=>⟨(hlM g hg).1,(hlM g hg).2.1,(hlM g hg).2.2.1,(hlM g hg).2.2.2.1⟩) h hne.2.1 hPW hP hl hcn)
 have Hvl:=Lib.hid (scGo_val (by omega) n wd s h.val (memRead_val hw.mem _))
 have y0:w.cell? ⟨b,0,none⟩=some (.pointer (some ⟨bs,0,none⟩)):=by rw [cell_blk hbk];rfl
 have hblt:=blk_lt hbk
 have Hw:=Lib.hid hw;have Hbk:=Lib.hid hbk;have HbM:=Lib.hid hbM;have HlM:=Lib.hid hlM;have Hne:=Lib.hid hne;have Hm:=Lib.hid hm;have Hblt:=Lib.hid hblt
 clear hw hbk hbM hsM hlM h hne hPW hP hl hm hcn hblt
 go_enter Try.func168,Try.ntmps168
 go_wp2_with fail
 refine SC.out.mono ?_
 intro e w5 hs
 obtain⟨rfl,hc5,lv5,hf5,hb5,hr5,ho5,hn5⟩:=hs
 have hw5:=hf5.toAt
 have hnb:¬ (WSet I b∨b=bs∨lv.ownBlock=some b):=by
  rintro(h|h|h)
  ·exact HbM.out.2 h
  ·exact Hne.out.2.2 h
  ·exact(HlM.out b h).2.2.2.2 rfl
 have hbk5:=(hc5.block b Hblt.out hnb).trans Hbk.out
 have HO:=Lib.hid (show ∀ g,lv5.ownBlock=some g->(lv.ownBlock=some g∨w.heap.size<=g)/\g≠bs/\g≠b/\g<w5.heap.size from λg hg=>by
  obtain⟨o1,o2,o3⟩:=ho5 g hg
  refine⟨o1,o2,?_,o3⟩
  rcases o1 with h|h
  ·exact(HlM.out g h).2.2.2.2
  ·have:=Hblt.out;omega)
 obtain⟨s5,hs5⟩:∃ s5,s5=scGo n wd s:=⟨_,rfl⟩
 have Hs5:=Lib.hid hs5
 rw [<-hs5] at hb5 hr5 hn5
 have Hm5:=Lib.hid (show s5.pc=3->0<=s5.moment/\s5.moment<1000000000 from by rw [hs5];exact Hm.out)
 have Hbk5:=Lib.hid hbk5;have Hw5:=Lib.hid hw5;have Hf5:=Lib.hid hf5;have Hb5:=Lib.hid hb5;have Hr5:=Lib.hid hr5;have Hn5:=Lib.hid hn5;have Hc5:=Lib.hid (show Chg (λk=>WSet I k∨k=b∨k=bs∨lv.ownBlock=some k) w w5 from hc5.mono (λ_ _ h=>h.elim .inl (λh=>.inr (.inr h))))
 clear hs5 hb5 hr5 hn5 hbk5 hw5 hf5 hc5 ho5 hnb y0
 by_cases h3:s5.pc=3
 ·rw [show decide ((scGo n wd s).pc=3)=true from by rw [<-Hs5.out];exact decide_eq_true h3]
  obtain⟨h4,h5⟩:=Hm5.out h3
  obtain⟨m,hmm⟩:∃ m,m=s5.moment:=⟨_,rfl⟩
  rw [<-hmm] at h4 h5
  obtain⟨mks,hwb,_,_⟩:=Hw5.out.blk
  have hnow:wd.now<1000000000:=Hw.out.nowlt
  have x1:w5.cell? ⟨I.bW,1,none⟩=some (.int .i64 (wd.now:Int)):=by rw [cell_blk hwb];exact world_now
  have x0:w5.cell? ⟨b,0,none⟩=some (.pointer (some ⟨bs,0,none⟩)):=by rw [cell_blk Hbk5.out];rfl
  have xk:w5.cell? ⟨b,1,none⟩=some kv:=by rw [cell_blk Hbk5.out];rfl
  have xf:=frozen_blk Hbk5.out 1
  have xm:w5.cell? ⟨bs,55,none⟩=some (.int .i64 m):=by rw [hmm];exact Hb5.out.mom
  have xlt:=blk_lt Hbk5.out
  have w1:IntKind.i64.wrap (2*m)=2*m:=by rw [IntKind.wrap_i64];omega
  have w2:IntKind.i64.wrap (2*(wd.now:Int))=2*(wd.now:Int):=by rw [IntKind.wrap_i64];omega
  obtain⟨wz,hwz⟩:∃ wz,wz=((w5.setCell ⟨b,1,none⟩ (.slice (some ⟨w5.heap.size,0,none⟩) 2 2)).alloc (.cells #[.int .i64 (2*m),.int .i64 (2*(wd.now:Int))] 3)).drew:=⟨_,rfl⟩
  have hcz:Chg (λk=>k=b) w5 wz:=by rw [hwz];exact(((Chg.refl (λk=>k=b) w5).setCell (p:=⟨b,1,none⟩) (.inl rfl) _).alloc _).drew
  have hbz:wz.heap[b]?=some (.cells (snRd bs (.slice (some ⟨w5.heap.size,0,none⟩) 2 2)) 221 (0,0)):=by
   rw [hwz]
   show(World.alloc _ _).heap[b]?=_
   rw [Below.heap_alloc _ _ _ (by simpa [World.setCell] using xlt),blk_set Hbk5.out];rfl
  have hkz:wz.heap[w5.heap.size]?=some (.cells (([2*m,2*(wd.now:Int)]:List Int).map (Value.int .i64)).toArray 3 (0,0)):=by
   have h7:=heap_alloc_new (w5.setCell ⟨b,1,none⟩ (.slice (some ⟨w5.heap.size,0,none⟩) 2 2)) (.cells #[.int .i64 (2*m),.int .i64 (2*(wd.now:Int))] 3 (0,0))
   rw [show(w5.setCell ⟨b,1,none⟩ (.slice (some ⟨w5.heap.size,0,none⟩) 2 2)).heap.size=w5.heap.size by simp [World.setCell]] at h7
   rw [hwz];exact h7
  have q0:(((w5.setCell ⟨b,1,none⟩ (.slice (some ⟨w5.heap.size,0,none⟩) 2 2)).alloc (.cells #[.int .i64 (2*m),.int .i64 (2*(wd.now:Int))] 3)).drew).cell? ⟨b,0,none⟩=some (.pointer (some ⟨bs,0,none⟩)):=by rw [<-hwz,cell_blk hbz];rfl
  have q1:(((w5.setCell ⟨b,1,none⟩ (.slice (some ⟨w5.heap.size,0,none⟩) 2 2)).alloc (.cells #[.int .i64 (2*m),.int .i64 (2*(wd.now:Int))] 3)).drew).cell? ⟨bs,55,none⟩=some (.int .i64 m):=by rw [<-hwz];exact box_keep hcz (λe=>Hne.out.2.2 e.symm) xm
  have q2:(((w5.setCell ⟨b,1,none⟩ (.slice (some ⟨w5.heap.size,0,none⟩) 2 2)).alloc (.cells #[.int .i64 (2*m),.int .i64 (2*(wd.now:Int))] 3)).drew).cell? ⟨I.bW,1,none⟩=some (.int .i64 (wd.now:Int)):=by rw [<-hwz];exact box_keep hcz (λe=>HbM.out.2 (.inl e.symm)) x1
  have F:=Lib.hid (show SrTo w wz Mut I N wd n b bs bP lv kv s (.returned (.bool true)) from by
   unfold SrTo
   rw [<-Hs5.out,decide_eq_true h3]
   refine⟨rfl,Hc5.out.trans (hcz.mono (λk _ e=>.inr (.inl e))),lv5,_,Hf5.out.go hcz (λk e=>by cases e;exact HbM.out),hbz,ScAt.chg ⟨Hb5.out,Hr5.out,Hn5.out,by rw [Hs5.out];exact Hvl.out⟩ hcz (λe=>Hne.out.2.2 e.symm) (λg hg e=>(HO.out g hg).2.2.1 e),λg hg=>?_,?_⟩
   ·obtain⟨o1,o2,o3,o4⟩:=HO.out g hg
    exact⟨o1,o2,o3,Nat.lt_of_lt_of_le o4 hcz.size⟩
   ·rw [if_pos h3,<-hmm]
    exact⟨some ⟨w5.heap.size,0,none⟩,2,rfl,(λh=>by cases h),ints_block hkz (by simp),λk off e hk=>by cases e;have:=Hw5.out.low _ hk;omega⟩)
  have Hwz:=Lib.hid hwz
  clear hwb h4 h5 hmm h3 hnow hcz hbz hkz hwz
  go_upto_region 3 with fail
  go_region_held3 (λu=>u.cell? ⟨b,0,none⟩=some (.pointer (some ⟨bs,0,none⟩))/\u.cell? ⟨bs,55,none⟩=some (.int .i64 m)/\u.cell? ⟨I.bW,1,none⟩=some (.int .i64 (wd.now:Int))) (first|exact⟨x0,xm,x1⟩|exact⟨q0,q1,q2⟩|go_keep) (fail)
  rw [<-Hwz.out]
  go_wp2
  go_ret
  exact F.out
 ·rw [show decide ((scGo n wd s).pc=3)=false from by rw [<-Hs5.out];exact decide_eq_false h3]
  have F:=Lib.hid (show SrTo w w5 Mut I N wd n b bs bP lv kv s (.returned (.bool false)) from by
   unfold SrTo
   rw [<-Hs5.out,decide_eq_false h3]
   exact⟨rfl,Hc5.out,lv5,kv,Hf5.out,Hbk5.out,⟨Hb5.out,Hr5.out,Hn5.out,by rw [Hs5.out];exact Hvl.out⟩,HO.out,by rw [if_neg h3]⟩)
  go_wp2
  go_ret
  exact F.out
end
section

/- Layer 15: the steps of one that updates. -/
open Go.RowKit
def snUp (bs p r nx v:Nat) (sc:Bool):Array Value:=#[.pointer (some ⟨bs,0,none⟩),.int .i64 (p:Int),.int .i64 (r:Int),.int .i64 (nx:Int),.int .u64 (v:Int),.bool sc]
def SuTo (w w':World) (Mut:Nat->Prop) (I:WIds) (N:Nat) (wd':WD) (b bs bP:Nat) (lv:Value) (cs:Array Value) (s':ScD) (done:Bool) (e:Ending):Prop:=
 e=.returned (.bool done)/\Chg (λk=>WSet I k∨k=b∨k=bs∨lv.ownBlock=some k) w w'/\∃ lv',WFrom w' Mut I N wd' lv'/\w'.heap[b]?=some (.cells cs 224 (0,0))/\ScAt w' bs bP lv' s'/\(∀ g,lv'.ownBlock=some g->(lv.ownBlock=some g∨w.heap.size<=g)/\g≠bs/\g≠b/\g<w'.heap.size)
set_option maxHeartbeats 8000000 in
theorem sup_scan (n k:Nat) (us:List Nat) (hn:n<=16) (w:World) (Mut:Nat->Prop) (I:WIds) (N:Nat) (wd:WD) (b bs bP:Nat) (s:ScD) (lv:Value) (p r nx v:Nat) (hw:WorldAt w Mut I N wd) (hbk:w.heap[b]?=some (.cells (snUp bs p r nx v false) 224 (0,0))) (hbM:Mut b/\¬ WSet I b) (hsM:Mut bs/\¬ WSet I bs) (hlM:∀ g,lv.ownBlock=some g->Mut g/\¬ WSet I g/\g≠bP/\g≠bs/\g≠b) (h:ScAt w bs bP lv s) (hne:bP≠b/\bP≠bs/\b≠bs) (hPW:¬ WSet I bP) (hP:w.heap[bP]?=some (.cells (snapL n k us).toArray 100 (0,0))) (hl:ScLive n wd s) (hcn:wd.mem.c.all+1<1000000000000) :
  Calls Try.prog 174 #[.pointer (some ⟨b,0,none⟩),.pointer (some ⟨I.bW,0,none⟩)] w λe w'=>SuTo w w' Mut I N (scWd wd s) b bs bP lv (snUp bs p r nx v (decide ((scGo n wd s).pc=3))) (scGo n wd s) false e:=by
 have SC:=Lib.hid (scan_any n k us hn w Mut I N wd bs bP s lv hw hsM (λg hg=>⟨(hlM g hg).1,(hlM g hg).2.1,(hlM g hg).2.2.1,(hlM g hg).2.2.2.1⟩) h hne.2.1 hPW hP hl hcn)
 have Hvl:=Lib.hid (scGo_val (by omega) n wd s h.val (memRead_val hw.mem _))
 have y0:w.cell? ⟨b,0,none⟩=some (.pointer (some ⟨bs,0,none⟩)):=by rw [cell_blk hbk];rfl
 have y5:w.cell? ⟨b,5,none⟩=some (.bool false):=by rw [cell_blk hbk];rfl
 have hblt:=blk_lt hbk
 have Hbk:=Lib.hid hbk;have HbM:=Lib.hid hbM;have HlM:=Lib.hid hlM;have Hne:=Lib.hid hne;have Hblt:=Lib.hid hblt
 clear hw hbk hbM hsM hlM h hne hPW hP hl hcn hblt
 go_enter Try.func174,Try.ntmps174
 go_wp2_with fail
 refine SC.out.mono ?_
 intro e w5 hs
 obtain⟨rfl,hc5,lv5,hf5,hb5,hr5,ho5,hn5⟩:=hs
 have hnb:¬ (WSet I b∨b=bs∨lv.ownBlock=some b):=by
  rintro(h|h|h)
  ·exact HbM.out.2 h
  ·exact Hne.out.2.2 h
  ·exact(HlM.out b h).2.2.2.2 rfl
 have hbk5:=(hc5.block b Hblt.out hnb).trans Hbk.out
 obtain⟨d,hd⟩:∃ d,d=decide ((scGo n wd s).pc=3):=⟨_,rfl⟩
 rw [<-hd]
 have hcz:Chg (λk=>k=b) w5 (w5.setCell ⟨b,5,none⟩ (.bool d)):=(Chg.refl (λk=>k=b) w5).setCell (p:=⟨b,5,none⟩) (.inl rfl) _
 have hO:∀ g,lv5.ownBlock=some g->(lv.ownBlock=some g∨w.heap.size<=g)/\g≠bs/\g≠b/\g<w5.heap.size:=λg hg=>by
  obtain⟨o1,o2,o3⟩:=ho5 g hg
  refine⟨o1,o2,?_,o3⟩
  rcases o1 with h|h
  ·exact(HlM.out g h).2.2.2.2
  ·have:=Hblt.out;omega
 have F:=Lib.hid (show SuTo w (w5.setCell ⟨b,5,none⟩ (.bool d)) Mut I N (scWd wd s) b bs bP lv (snUp bs p r nx v (decide ((scGo n wd s).pc=3))) (scGo n wd s) false (.returned (.bool false)) from by
  refine⟨rfl,(hc5.mono (λ_ _ h=>h.elim .inl (λh=>.inr (.inr h)))).trans (hcz.mono (λk _ e=>.inr (.inl e))),lv5,hf5.go hcz (λk e=>by cases e;exact HbM.out),?_,ScAt.chg ⟨hb5,hr5,hn5,Hvl.out⟩ hcz (λe=>Hne.out.2.2 e.symm) (λg hg e=>(hO g hg).2.2.1 e),λg hg=>?_⟩
  ·rw [blk_set hbk5,<-hd];rfl
  ·obtain⟨o1,o2,o3,o4⟩:=hO g hg
   exact⟨o1,o2,o3,Nat.lt_of_lt_of_le o4 hcz.size⟩)
 have x0:w5.cell? ⟨b,0,none⟩=some (.pointer (some ⟨bs,0,none⟩)):=by rw [cell_blk hbk5];rfl
 have x5:w5.cell? ⟨b,5,none⟩=some (.bool false):=by rw [cell_blk hbk5];rfl
 have xf:=frozen_blk hbk5 5
 have xlt:=blk_lt hbk5
 clear hc5 hf5 hb5 hr5 ho5 hn5 hnb hbk5 hd hcz hO y0 y5
 go_wp2
 go_ret
 exact F.out
set_option maxHeartbeats 8000000 in
theorem sup_value (w:World) (Mut:Nat->Prop) (I:WIds) (N:Nat) (wd:WD) (b bs bP:Nat) (s:ScD) (lv:Value) (p r v:Nat) (hw:WorldAt w Mut I N wd) (hbk:w.heap[b]?=some (.cells (snUp bs p r 0 v true) 224 (0,0))) (hbM:Mut b/\¬ WSet I b) (hsM:Mut bs/\¬ WSet I bs) (hlM:∀ g,lv.ownBlock=some g->Mut g/\¬ WSet I g/\g≠bP/\g≠bs/\g≠b) (h:ScAt w bs bP lv s) (hne:bP≠b/\bP≠bs/\b≠bs) (hv:v<18446744073709551616) (hcn:wd.mem.c.all+1<1000000000000) :
  Calls Try.prog 174 #[.pointer (some ⟨b,0,none⟩),.pointer (some ⟨I.bW,0,none⟩)] w λe w'=>SuTo w w' Mut I N (doWrite wd r v) b bs bP lv (snUp bs p r 1 v true) s false e:=by
 obtain⟨s1,s2,s3⟩:=memSet_sub hw
 obtain⟨mks,hwb,_,_⟩:=hw.blk
 have hblt:=blk_lt hbk
 obtain⟨wa,hwa⟩:∃ wa,wa=w.setCell ⟨b,3,none⟩ (.int .i64 1):=⟨_,rfl⟩
 have hca:Chg (λj=>j=b) w wa:=by rw [hwa];exact(Chg.refl (λj=>j=b) w).setCell (by exact .inl rfl) _
 have hba:wa.heap[b]?=some (.cells (snUp bs p r 1 v true) 224 (0,0)):=by rw [hwa,blk_set hbk];rfl
 have hwA:=world_cell hw hca (λj hj=>by cases hj;exact hbM)
 have y3:w.cell? ⟨b,3,none⟩=some (.int .i64 0):=by rw [cell_blk hbk];rfl
 have y5:w.cell? ⟨b,5,none⟩=some (.bool true):=by rw [cell_blk hbk];rfl
 have yf:=frozen_blk hbk 3
 have a0:wa.cell? ⟨I.bW,0,none⟩=some (.pointer (some ⟨I.bm,0,none⟩)):=(hca.cell (blk_lt hwb) (λe=>hbM.2 (.inl e.symm))).trans (by rw [cell_blk hwb];exact world_mem)
 have a2:wa.cell? ⟨b,2,none⟩=some (.int .i64 (r:Int)):=by rw [cell_blk hba];rfl
 have a4:wa.cell? ⟨b,4,none⟩=some (.int .u64 (v:Int)):=by rw [cell_blk hba];rfl
 have nb:¬ MemSet I.bm I.bw b:=λh=>hbM.2 (s3 b h).1
 have Wr:=Lib.hid (λ(u:World) (h:Chg noB wa u)=>write_any I.bm I.bw wd.mem (r:Int) v u (hwA.mem.chg h (λh=>h) (λ_ _ h=>h)) hv hcn)
 have hsa:=h.chg hca (λe=>hne.2.2 e.symm) (λg hg e=>(hlM g hg).2.2.2.2 e)
 have HwA:=Lib.hid hwA;have Hca:=Lib.hid hca;have Hba:=Lib.hid hba;have Hwa:=Lib.hid hwa;have Nb:=Lib.hid nb;have S2:=Lib.hid s2;have S3:=Lib.hid s3;have HbM:=Lib.hid hbM;have HsM:=Lib.hid hsM;have HlM:=Lib.hid hlM;have Hsa:=Lib.hid hsa;have Hne:=Lib.hid hne;have Hblt:=Lib.hid hblt
 clear hw hbk hwb s1 s2 s3 nb hbM hsM hlM h hne hv hcn hwa hca hwA hba hsa hblt
 go_enter Try.func174,Try.ntmps174
 go_upto_region 10 with fail
 rw [<-Hwa.out]
 clear y3 y5 yf
 go_upto_region 11 with fail
 go_region_held3 (λu=>u.cell? ⟨I.bW,0,none⟩=some (.pointer (some ⟨I.bm,0,none⟩))/\u.cell? ⟨b,2,none⟩=some (.int .i64 (r:Int))/\u.cell? ⟨b,4,none⟩=some (.int .u64 (v:Int)))
  (first|exact⟨a0,a2,a4⟩|exact⟨z0,z1,z2⟩)
  (first|(go_at_call 120;refine(Wr.out _ ?_).mono ?_;(exact(Chg.refl _ _).drew);rintro e w6 ⟨rfl,hm1,hc1⟩;have hc1':Chg (MemSet I.bm I.bw) wa w6:=((Chg.refl _ wa).drew).trans hc1;have z0:=box_keep hc1' S2.out a0;have z1:=box_keep hc1' Nb.out a2;have z2:=box_keep hc1' Nb.out a4))
 obtain⟨hw1,hch1⟩:=HwA.out.mems hc1' hm1
 have F:=Lib.hid (show SuTo w w6 Mut I N (doWrite wd r v) b bs bP lv (snUp bs p r 1 v true) s false (.returned (.bool false)) from by
  refine⟨rfl,(Hca.out.mono (λk _ e=>.inr (.inl e))).trans (hch1.mono (λ_ _ h=>.inl h)),lv,WFrom.of hw1 (λg hg=>(HlM.out g hg).1),(hc1'.block b (blk_lt Hba.out) Nb.out).trans Hba.out,Hsa.out.chg hch1 HsM.out.2 (λg hg=>(HlM.out g hg).2.1),λg hg=>⟨.inl hg,(HlM.out g hg).2.2.2.1,(HlM.out g hg).2.2.2.2,?_⟩⟩
  exact Nat.lt_of_lt_of_le (HwA.out.low g (HlM.out g hg).1) hch1.size)
 clear hw1 hch1 hc1 hc1' hm1 z0 z1 z2 a0 a2 a4
 go_wp2
 go_ret
 exact F.out
end
end Go.Proofs.Ytlepjmnhekeofaa
