/- Layer 14: the register as the loom's object: its machines answer, and start. -/
import Derived.Test.YtfkokppncipgnaaGreatV38
import Derived.Test.YtfkokppncipgnaaGreatV35
import Derived.Test.YtfkokppncipgnaaGreatV34
set_option maxRecDepth 100000
set_option linter.unusedVariables false
set_option linter.unusedSimpArgs false
set_option linter.unnecessarySimpa false
namespace Go.Proofs.YtfkokppncipgnaaGreat
section
open Go.RowKit
theorem pwr_step_m (a : Addr) : Meth 255 (.pointer (some a)) "Step" 213 (.pointer (some a)) := ⟨fun _ _ => by kernel_rfl, fun _ _ => by kernel_rfl, fun _ _ => by kernel_rfl⟩
theorem pwr_answer_m (a : Addr) : Meth 255 (.pointer (some a)) "Answer" 212 (.pointer (some a)) := ⟨fun _ _ => by kernel_rfl, fun _ _ => by kernel_rfl, fun _ _ => by kernel_rfl⟩
theorem prd_step_m (a : Addr) : Meth 252 (.pointer (some a)) "Step" 211 (.pointer (some a)) := ⟨fun _ _ => by kernel_rfl, fun _ _ => by kernel_rfl, fun _ _ => by kernel_rfl⟩
theorem prd_answer_m (a : Addr) : Meth 252 (.pointer (some a)) "Answer" 210 (.pointer (some a)) := ⟨fun _ _ => by kernel_rfl, fun _ _ => by kernel_rfl, fun _ _ => by kernel_rfl⟩
theorem pin_start_m (a : Addr) : Meth 64 (.pointer (some a)) "Start" 158 (.pointer (some a)) := ⟨fun _ _ => by kernel_rfl, fun _ _ => by kernel_rfl, fun _ _ => by kernel_rfl⟩
theorem pwr_kind (v:Value) (u:World):(Instr.typeAssert (.iface 255 v) 129 159 true).run Tryz.prog u=.ok (.tuple #[.nilIface,.bool false]) u:=run_typeAssert_lacksB Tryz.underlying159 (by kernel_rfl) (by kernel_rfl) v _ u
theorem prd_kind (v:Value) (u:World):(Instr.typeAssert (.iface 252 v) 129 159 true).run Tryz.prog u=.ok (.tuple #[.nilIface,.bool false]) u:=run_typeAssert_lacksB Tryz.underlying159 (by kernel_rfl) (by kernel_rfl) v _ u
theorem enter_look (args:Array Value) (u:World):(callFunc 161 args).run Tryz.prog u=.ok (.enter 161 args) u:=by kernel_rfl
theorem enter_fill (args:Array Value) (u:World):(callFunc 163 args).run Tryz.prog u=.ok (.enter 163 args) u:=by kernel_rfl
theorem enter_change (args:Array Value) (u:World):(callFunc 169 args).run Tryz.prog u=.ok (.enter 169 args) u:=by kernel_rfl
theorem pwr_answer (b:Nat) (w:World):Calls Tryz.prog 212 #[.pointer (some ⟨b,0,none⟩)] w λe w'=>e=.returned (.tuple #[ansV 0 0 (.slice none 0 0),.slice none 0 0])/\Below w.heap.size w w':=by
 unfold ansV
 go_enter Tryz.func212,Tryz.ntmps212
 go_wp2
 exact bodyPost_ret (v:=.tuple #[.agg #[.int .i64 0,.int .u64 0,.slice none 0 0],.slice none 0 0]) (by simp [results,Tryz.results212 ,go_sem]) rfl ⟨rfl,Gr.new _ _⟩
theorem prd_answer (bP b q j ln lc kn kc:Nat) (la ka:Option Addr) (w:World) (h:w.heap[b]?=some (.cells (piRd bP q j (.slice la ln lc) (.slice ka kn kc)) 254 (0,0))) :
  Calls Tryz.prog 210 #[.pointer (some ⟨b,0,none⟩)] w λe w'=>e=.returned (.tuple #[ansV 0 0 (.slice la ln lc),.slice ka kn kc])/\Below w.heap.size w w':=by
 have hlt:=blk_lt h
 have hb2:(w.alloc (.cells #[.int .i64 0,.int .u64 0,.slice none 0 0] 50)).heap[b]?=_:=(Below.heap_alloc _ _ _ hlt).trans h
 have c3:(w.alloc (.cells #[.int .i64 0,.int .u64 0,.slice none 0 0] 50)).cell? ⟨b,3,none⟩=some (.slice la ln lc):=by rw [cell_blk hb2];rfl
 have c4:(w.alloc (.cells #[.int .i64 0,.int .u64 0,.slice none 0 0] 50)).cell? ⟨b,4,none⟩=some (.slice ka kn kc):=by rw [cell_blk hb2];rfl
 have d3:w.cell? ⟨b,3,none⟩=some (.slice la ln lc):=by rw [cell_blk h];rfl
 have d4:w.cell? ⟨b,4,none⟩=some (.slice ka kn kc):=by rw [cell_blk h];rfl
 have hne:w.heap.size≠b:=by omega
 have hne2:b≠w.heap.size:=by omega
 clear h hb2
 unfold ansV
 go_enter Tryz.func210,Tryz.ntmps210
 go_wp2_with fail
 go_region_held3 (λu=>u.cell? ⟨b,3,none⟩=some (.slice la ln lc)/\u.cell? ⟨b,4,none⟩=some (.slice ka kn kc)) (first|exact⟨c3,c4⟩|exact⟨(World.cell?_alloc_lt _ _ _ hlt).trans d3,(World.cell?_alloc_lt _ _ _ hlt).trans d4⟩|go_keep) (fail)
 all_goals
  go_wp2
  exact bodyPost_ret (v:=.tuple #[.agg #[.int .i64 0,.int .u64 0,.slice la ln lc],.slice ka kn kc]) (by simp [results,Tryz.results210 ,go_sem]) rfl ⟨rfl,by first|exact(Gr.new _ _).drew|exact Gr.new _ _⟩
theorem pin_blks (w:World) (th ob kd ca cb cc:Int):∃ wa,wa=w.alloc (.cells #[.int .i64 th,.int .i64 ob,.int .i64 kd,.int .u64 ca,.int .u64 cb,.int .u64 cc] 48)/\Below w.heap.size w wa/\wa.heap.size=w.heap.size+1/\
  wa.heap[w.heap.size]?=some (.cells #[.int .i64 th,.int .i64 ob,.int .i64 kd,.int .u64 ca,.int .u64 cb,.int .u64 cc] 48 (0,0)):=
 ⟨_,rfl,Gr.new _ _,by simp,heap_alloc_new _ _⟩
def piM (bP bC n k:Nat) (w:World) (Mut B:Nat->Prop) (T:TypeId) (x:Value) (_:Nat):PiS->Prop
 | .wr v q i ph=>T=255/\∃ b,x=.pointer (some ⟨b,0,none⟩)/\w.heap[b]?=some (.cells (piWr bP b v q i ph) 257 (0,0))/\B b
 | .rd q j l key=>T=252/\∃ b la lc kv,x=.pointer (some ⟨b,0,none⟩)/\w.heap[b]?=some (.cells (piRd bP q j (.slice la l.length lc) kv) 254 (0,0))/\B b/\Lst w Mut kv key/\
  ((j<=k+1/\w.ownsRow 0 46 1 (.slice la l.length lc) l.length (l.map u64V)/\∀ g,(Value.slice la l.length lc).ownBlock=some g->B g/\g≠b)∨(k+2<=j/\LstU w Mut (.slice la l.length lc) l))
def piLive (n k:Nat):PiS->Prop
 | .wr _ q i ph=>q<=n/\(ph=1->i<k)
 | .rd q j l _=>l.length<=100/\(1<=j->q<=100)/\j<=k+1
def pinR (n k bP bC:Nat):Real (pinS n k) where
 T:=64
 x:=.pointer (some ⟨bP,0,none⟩)
 OB:=λb=>b=bP∨b=bC
 ORep:=λw Mut o=>PinAt w bP bC n k o/\Mut bP/\Mut bC
 MRep:=piM bP bC n k
 inv:=λ_ _=>True
 dN:=1
 live:=λ_ _ _ s=>piLive n k s
 done:=λs=>match s with
  | .wr _ _ _ _=>True
  | .rd _ j _ _=>k+2<=j
set_option maxHeartbeats 8000000 in
theorem pin_start (n k bP bC:Nat) (hn:n<=16) (hPC:bP≠bC) (w:World) (Mut:Nat->Prop) (I:WIds) (N:Nat) (wd:WD) (o:PinO) (p:Nat) (c:CallD) (hw:WorldAt w Mut I N wd) (ho:PinAt w bP bC n k o/\Mut bP/\Mut bC) (hp:p<16) (hc:CallOk c) :
  Calls Tryz.prog 158 #[.pointer (some ⟨bP,0,none⟩),.pointer (some ⟨I.bW,0,none⟩),.int .i64 (p:Int),callAgg c] w (StartPost (pinR n k bP bC) w Mut I wd o p c):=by
 obtain⟨th,ob,kd,ca,cb,cc⟩:=c
 have hlow:=hw.low
 obtain⟨hP,hm1,hm2⟩:=ho
 unfold callAgg
 simp only
 have hPl:=hlow _ hm1
 have nm:∀(d k:Nat),w.heap.size<=k->k≠d->¬ (mutTo Mut noB (λb=>b=d) k):=λd k hk hkd=>by
  rintro(⟨hx,_⟩|hx)
  ·have:=hlow _ hx;omega
  ·exact hkd hx
 have Nm:=Lib.hid nm
 obtain⟨wa,hwa,hga,hsz,ha1⟩:=pin_blks w th ob kd (ca:Int) (cb:Int) (cc:Int)
 have f2:wa.cell? ⟨w.heap.size,2,none⟩=some (.int .i64 kd):=by rw [cell_blk ha1];rfl
 have f3:wa.cell? ⟨w.heap.size,3,none⟩=some (.int .u64 (ca:Int)):=by rw [cell_blk ha1];rfl
 have hPa:=hP.chg (Chg.of_below (S:=noB) hga) (λh=>h) (λh=>h)
 have STh:=Lib.hid (show(pinS n k).start o wd p ⟨th,ob,kd,ca,cb,cc⟩=(if kd=1 then Mc.run (PiS.rd 0 0 [] []) else if kd≠0 then .refuse 9 else if p≠0 then .refuse 11 else .run (.wr ca (piNext o.now 0) 0 0)) from rfl)
 have Hwa:=Lib.hid hwa;have Hga:=Lib.hid hga;have Hsz:=Lib.hid hsz;have HPa:=Lib.hid hPa
 clear hw hc hlow hP hm1 hm2 nm hwa hga hsz ha1 hPa hp
 by_cases h1:kd=1
 ·have Hst:=Lib.hid (show(pinS n k).start o wd p ⟨th,ob,kd,ca,cb,cc⟩=.run (.rd 0 0 [] []) by rw [STh.out,if_pos h1];rfl)
  subst h1
  go_enter Tryz.func158,Tryz.ntmps158
  go_upto_region 1 with fail
  rw [<-Hwa.out]
  go_wp2
  go_ret
  have hblk:=heap_alloc_new wa (.cells (piRd bP 0 0 (.slice none 0 0) (.slice none 0 0)) 254 (0,0))
  refine⟨_,_,λb=>b=wa.heap.size,rfl,Gr.trans Hga.out (Gr.new _ _),λb hb=>by subst hb;have:=Hsz.out;exact⟨by omega,by simp⟩,?_⟩
  rw [Hst.out]
  exact⟨rfl,wa.heap.size,none,0,.slice none 0 0,rfl,hblk,rfl,Lst.nil _ _,.inl ⟨Nat.zero_le _,World.ownsRow_nil _ _ _ _,λg hg=>by cases hg⟩⟩
 by_cases h0:kd=0
 ·by_cases hp0:p=0
  ·have Hst:=Lib.hid (show(pinS n k).start o wd p ⟨th,ob,kd,ca,cb,cc⟩=.run (.wr ca (piNext o.now 0) 0 0) by rw [STh.out,if_neg h1,if_neg (by simpa using h0),if_neg (by simpa using hp0)];rfl)
   obtain⟨wb,hwb⟩:∃ wb,wb=wa.alloc (.cells #[.pointer (some ⟨bP,0,none⟩),.int .u64 (ca:Int),.int .i64 ((0:Nat):Int),.int .i64 ((0:Nat):Int),.nilFunc] 257):=⟨_,rfl⟩
   have hgb:Below wa.heap.size wa wb:=by rw [hwb];exact Gr.new _ _
   have hbb:wb.heap[wa.heap.size]?=some (.cells #[.pointer (some ⟨bP,0,none⟩),.int .u64 (ca:Int),.int .i64 ((0:Nat):Int),.int .i64 ((0:Nat):Int),.nilFunc] 257 (0,0)):=by rw [hwb];exact heap_alloc_new _ _
   have NX:=Lib.hid (wr_next bP bC n k o.last o.now wa.heap.size ca 0 0 .nilFunc (by omega) wb (HPa.out.chg (Chg.of_below (S:=noB) hgb) (λh=>h) (λh=>h)).blk hbb (by have:=Hsz.out;omega))
   have Hwb:=Lib.hid (show wb=wa.alloc (.cells #[.pointer (some ⟨bP,0,none⟩),.int .u64 (ca:Int),.int .i64 0,.int .i64 0,.nilFunc] 257) from hwb);have Hgb:=Lib.hid hgb
   obtain⟨A,hA⟩:∃ A,A=wa.heap.size:=⟨_,rfl⟩
   have HA:=Lib.hid hA
   rw [<-hA] at NX
   clear hwb hgb hbb h1
   subst h0
   subst hp0
   clear hA
   go_enter Tryz.func158,Tryz.ntmps158
   go_upto_region 1 with fail
   rw [<-Hwa.out]
   go_upto_region 8 with fail
   rw [<-Hwb.out,<-HA.out]
   go_wp2_with fail
   refine NX.out.mono ?_
   rintro e w3 ⟨rfl,hc3,hbk3⟩
   have e4:w3.cell? ⟨A,4,none⟩=some .nilFunc:=by rw [cell_blk hbk3];rfl
   have f4:=frozen_blk hbk3 4
   obtain⟨w4,hw4⟩:∃ w4,w4=w3.setCell ⟨A,4,none⟩ (.func (.func 161) #[.pointer (some ⟨A,0,none⟩)] #[]):=⟨_,rfl⟩
   have hc4:Chg (λj=>j=A) w3 w4:=by rw [hw4];exact(Chg.refl (λj=>j=A) w3).setCell (by exact .inl rfl) _
   have hb4:w4.heap[A]?=some (.cells (piWr bP A ca (piNext o.now 0) 0 0) 257 (0,0)):=by rw [hw4,blk_set hbk3];rfl
   have hall:Chg (λj=>w.heap.size<=j) w w4:=by
    have h5:=Hsz.out;have h6:=HA.out
    exact(((Chg.of_below Hga.out).trans (Chg.of_below Hgb.out)).trans (hc3.mono (λj _ h=>by omega))).trans (hc4.mono (λj _ h=>by omega))
   have F:=Lib.hid (show StartPost (pinR n k bP bC) w Mut I wd o 0 ⟨th,ob,0,ca,cb,cc⟩ (.returned (.iface 255 (.pointer (some ⟨A,0,none⟩)))) w4 from by
    have h5:=Hsz.out;have h6:=HA.out
    refine⟨_,_,λb=>b=A,rfl,hall.below (λj h=>h) (Nat.le_refl _),λb hb=>by subst hb;exact⟨by omega,blk_lt hb4⟩,?_⟩
    rw [Hst.out]
    exact⟨rfl,A,rfl,hb4,rfl⟩)
   have Hw4:=Lib.hid hw4
   clear hc3 hbk3 hw4 hc4 hb4 hall
   go_wp2
   rw [<-Hw4.out]
   go_ret
   exact F.out
  ·have Hst:=Lib.hid (show(pinS n k).start o wd p ⟨th,ob,kd,ca,cb,cc⟩=.refuse 11 by rw [STh.out,if_neg h1,if_neg (by simpa using h0),if_pos hp0];rfl)
   have Rf:=Lib.hid (refuse_any 11)
   have hpi:((p:Int) != 0)=true:=by simp;omega
   subst h0
   clear h1 hp0
   go_enter Tryz.func158,Tryz.ntmps158
   go_upto_region 1 with fail
   rw [<-Hwa.out]
   go_wp2_with (go_at_call 85;refine(Rf.out _).mono ?_;rintro e w' ⟨rfl,hrf,hbr⟩)
   go_ret
   have hsw:=Hsz.out
   refine⟨_,_,λb=>b=wa.heap.size+1,rfl,Gr.trans Hga.out hbr,λb hb=>by subst hb;exact⟨by omega,blk_lt hrf.1⟩,?_⟩
   rw [Hst.out]
   exact⟨rfl,wa.heap.size+1,wa.heap.size,rfl,hrf,rfl,Nm.out _ _ (by omega) (by omega)⟩
 ·have Hst:=Lib.hid (show(pinS n k).start o wd p ⟨th,ob,kd,ca,cb,cc⟩=.refuse 9 by rw [STh.out,if_neg h1,if_pos h0];rfl)
  have Rf:=Lib.hid (refuse_any 9)
  have q1:(kd != 0)=true:=by simp [h0]
  have q0:(kd == 1)=false:=by simp [h1]
  go_enter Tryz.func158,Tryz.ntmps158
  go_upto_region 1 with fail
  rw [<-Hwa.out]
  go_wp2_with (go_at_call 85;refine(Rf.out _).mono ?_;rintro e w' ⟨rfl,hrf,hbr⟩)
  go_ret
  have hsw:=Hsz.out
  refine⟨_,_,λb=>b=wa.heap.size+1,rfl,Gr.trans Hga.out hbr,λb hb=>by subst hb;exact⟨by omega,blk_lt hrf.1⟩,?_⟩
  rw [Hst.out]
  exact⟨rfl,wa.heap.size+1,wa.heap.size,rfl,hrf,rfl,Nm.out _ _ (by omega) (by omega)⟩
end
section

/- Layer 14: what every play of a register keeps: how a turn begins, and what it leaves alone. -/
open Go.RowKit
variable {n k:Nat} {calls:List CallD}
theorem pi_none {st:PlayD (pinS n k)} (hthr:∀ c,c<calls.length->0<=(calls.getD c d0).thread/\(calls.getD c d0).thread<n) (hg:StGood calls st) {p:Nat} (hp:n<=p):(st.hands.getD p (none,0)).1=none:=by
 cases hh:st.hands.getD p (none,0) with
 | mk m j=>
  cases m with
  | none=>rfl
  | some s=>
   have hN:=(hg.ev.hand p j (by unfold hndOf;rw [hh];rfl)).2.2.2
   have h1:=nowN_spec hN
   have h2:=hthr _ h1.1
   rw [h1.2.1] at h2
   omega
theorem pi_first {st:PlayD (pinS n k)} (hn:1<=n) (hthr:∀ c,c<calls.length->0<=(calls.getD c d0).thread/\(calls.getD c d0).thread<n) (hg:StGood calls st) (h0:(st.hands.getD 0 (none,0)).1=none) (now q:Nat):piN now q st.hands+1<=n:=
 cp_bound (P:=piFar now q) hn (congrArg (piFar now q) h0) (λp hp=>congrArg (piFar now q) (pi_none hthr hg hp)) rfl
theorem pi_pre {st:PlayD (pinS n k)} {q i j:Nat} {s:PiS} {evs0:List EvD} {wd0:WD} (hn:1<=n) (hthr:∀ c,c<calls.length->0<=(calls.getD c d0).thread/\(calls.getD c d0).thread<n) (hg:StGood calls st) (h:PiInv n k calls st) (hf:From calls st q i j s evs0 wd0) :
  objOf calls (evAt evs0 j)=0/\piHand n k calls st.wd.mem.ws st.obj st.hands q (evAt evs0 j) s/\(∀ x,piAt x (st.hands.getD q (none,0)).1=piAt x (some s))/\(∀ o x,piFar o x (st.hands.getD q (none,0)).1=piFar o x (some s)):=by
 rcases hf.or with⟨hh,hk,hc,hr,rfl,rfl⟩|⟨hh,hs,rfl,rfl,rfl⟩
 ·obtain⟨g1,g2⟩:=h.hand q s j hh
  exact⟨g1,g2,λx=>congrArg (piAt x) (congrArg Prod.fst hh),λo x=>congrArg (piFar o x) (congrArg Prod.fst hh)⟩
 ·have he:evAt (st.evs++[newEv i (st.wd.tick.begin q)]) st.evs.length=newEv i (st.wd.tick.begin q):=evAt_last
  rw [he]
  unfold startD at hs
  have ho:objOf calls (newEv i (st.wd.tick.begin q))=(calls.getD i d0).obj:=rfl
  have hkd:kindOf calls (newEv i (st.wd.tick.begin q))=(calls.getD i d0).kind:=rfl
  rw [ho]
  by_cases ho0:(calls.getD i d0).obj=0
  ·rw [if_pos ho0] at hs
   refine⟨ho0,?_⟩
   by_cases hk1:(calls.getD i d0).kind=1
   ·have e1:(pinS n k).start st.obj (st.wd.tick.begin q) q (calls.getD i d0)=.run (.rd 0 0 [] []):=if_pos hk1
    rw [e1] at hs;cases hs
    exact⟨⟨by rw [hkd,hk1],Nat.zero_le _,rfl,λ_=>rfl,λh=>absurd h (by omega)⟩,λx=>(congrArg (piAt x) hh).trans (by simp [piAt]),λo x=>(congrArg (piFar o x) hh).trans (by simp [piFar])⟩
   by_cases hk0:(calls.getD i d0).kind=0
   ·by_cases hq0:q=0
    ·have e1:(pinS n k).start st.obj (st.wd.tick.begin q) q (calls.getD i d0)=.run (.wr (calls.getD i d0).a (piNext st.obj.now 0) 0 0):=(if_neg hk1).trans ((if_neg (by simpa using hk0)).trans (if_neg (by simpa using hq0)))
     rw [e1] at hs;cases hs
     subst hq0
     have h1:=pi_first hn hthr hg hh st.obj.now (piNext st.obj.now 0)
     refine⟨⟨rfl,by rw [hkd,hk0],rfl,?_,.inl ⟨rfl,rfl,?_,h1⟩⟩,λx=>(congrArg (piAt x) hh).trans rfl,λo x=>(congrArg (piFar o x) hh).trans rfl⟩
     ·unfold piNext;split<;>omega
     ·show 0+_=_
      unfold piNext;split<;>split<;>omega
    ·have e1:(pinS n k).start st.obj (st.wd.tick.begin q) q (calls.getD i d0)=.refuse 11:=(if_neg hk1).trans ((if_neg (by simpa using hk0)).trans (if_pos hq0))
     rw [e1] at hs;cases hs
   ·have e1:(pinS n k).start st.obj (st.wd.tick.begin q) q (calls.getD i d0)=.refuse 9:=(if_neg hk1).trans (if_pos hk0)
    rw [e1] at hs;cases hs
  ·rw [if_neg ho0] at hs;cases hs
theorem pi_live {ws:List Nat} {o:PinO} {hs:List (Option PiS×Nat)} {p:Nat} {e:EvD} {s:PiS} (hn:n<=16) (hk:k<=8) (h:piHand n k calls ws o hs p e s):piLive n k s:=by
 match s,h with
 | .wr v q i ph,⟨h1,h2,h3,h4,h5⟩=>
  rcases h5 with⟨a1,a2,a3,a4⟩|⟨a1,a2,a3,a4,a5,a6,a7,a8,a9⟩
  ·exact⟨pi_look h4 a3 a4,λh=>by omega⟩
  ·exact⟨a3,a7⟩
 | .rd q j l key,⟨h1,h2,h3,h4,h5⟩=>
  refine⟨?_,λh=>by have:=(h5 h).1;omega,h2⟩
  rcases Nat.eq_zero_or_pos j with h0|h0
  ·rw [h4 h0];exact Nat.zero_le _
  ·have:=(h5 h0).2.1;omega
theorem rd_keep {ws ws':List Nat} {o o':PinO} {hs hs':List (Option PiS×Nat)} {p q j:Nat} {l:List Nat} {key:List Int} {e:EvD} (h:piHand n k calls ws o hs p e (.rd q j l key)) (hw:1<=j->∀ a,a<k->ws'.getD (piWord n k q a) 0=ws.getD (piWord n k q a) 0):piHand n k calls ws' o' hs' p e (.rd q j l key):=by
 obtain⟨h1,h2,h3,h4,h5⟩:=h
 exact⟨h1,h2,h3,h4,λhj=>⟨(h5 hj).1,(h5 hj).2.1,λa ha=>((h5 hj).2.2 a ha).trans (hw hj a (by omega)).symm⟩⟩
theorem wr_keep {ws ws':List Nat} {o:PinO} {hs hs':List (Option PiS×Nat)} {p v q i ph:Nat} {e:EvD} (h:piHand n k calls ws o hs p e (.wr v q i ph)) (hw:∀ q a,q<=n->a<k->ws'.getD (piWord n k q a) 0=ws.getD (piWord n k q a) 0) (hN:∀ q,piN o.now q hs'<=piN o.now q hs) (hH:∀ q,q≠o.now->piH q hs'<=piH q hs):piHand n k calls ws' o hs' p e (.wr v q i ph):=by
 obtain⟨h1,h2,h3,h4,h5⟩:=h
 refine⟨h1,h2,h3,h4,?_⟩
 rcases h5 with⟨a1,a2,a3,a4⟩|⟨a1,a2,a3,a4,a5,a6,a7,a8,a9⟩
 ·have:=hN q
  exact .inl ⟨a1,a2,a3,by omega⟩
 ·have:=hH q h4
  exact .inr ⟨a1,a2,a3,by omega,a5,a6,a7,a8,λa ha=>(hw q a a3 (by omega)).trans (a9 a ha)⟩
theorem pi_rest {st st':PlayD (pinS n k)} {q j:Nat} {e1:EvD} {x:Option (pinS n k).σ×Nat} (hg:StGood calls st) (h:PiInv n k calls st) (hq:q<16) (hx:Next calls st q st'.evs j e1) (hh:st'.hands=st.hands.set q x)
  (hW:PiW n k st'.wd.now st'.wd.mem.ws st'.obj st'.hands)
  (hO:∀ p s2 e,p≠q->(∃ j2,st.hands.getD p (none,0)=(some s2,j2))->piHand n k calls st.wd.mem.ws st.obj st.hands p e s2->piHand n k calls st'.wd.mem.ws st'.obj st'.hands p e s2)
  (hS:∀ s1 j1,x=(some s1,j1)->j1=j/\objOf calls e1=0/\piHand n k calls st'.wd.mem.ws st'.obj st'.hands q e1 s1)
  (hC:∀ q,q<=n->(∀ v i ph j,st'.hands.getD 0 (none,0)=(some (.wr v q i ph),j)->ph=0)->piGood k calls (λa=>st'.wd.mem.ws.getD (piWord n k q a) 0))
  (hD:e1.resp≠0->piDone n k calls e1):PiInv n k calls st':=by
 refine⟨hW,λp s j2 hp=>?_,hC,λj2 hj hr=>?_⟩
 ·rw [hh,hands_set hg.h16 hq] at hp
  split at hp
  ·rename_i hpq
   obtain⟨rfl,g1,g2⟩:=hS s j2 hp
   subst hpq
   rw [hx.self]
   exact⟨g1,g2⟩
  ·rename_i hpq
   obtain⟨a1,a2⟩:=hx.apart p s j2 hpq hp
   have e:=(hx.other j2 (Nat.lt_of_lt_of_le a2 hx.size) a1).2
   obtain⟨g1,g2⟩:=h.hand p s j2 hp
   rw [e]
   exact⟨g1,hO p s _ hpq ⟨j2,hp⟩ g2⟩
 ·by_cases hjj:j2=j
  ·subst hjj
   rw [hx.self] at hr ⊢
   exact hD hr
  ·obtain⟨a1,e⟩:=hx.other j2 hj hjj
   rw [e] at hr ⊢
   exact h.done j2 a1 hr
end
section

/- Layer 14: what every play of a register keeps: each turn keeps it. -/
open Go.RowKit
variable {n k:Nat} {calls:List CallD}
theorem pi_same {hs:List (Option PiS×Nat)} {p:Nat} (hp:p<hs.length) (x:Option PiS×Nat) (h1:∀ y,piAt y (hs.getD p (none,0)).1=piAt y x.1) (h2:∀ o y,piFar o y (hs.getD p (none,0)).1=piFar o y x.1):(∀ y,piH y (hs.set p x)=piH y hs)/\∀ o y,piN o y (hs.set p x)=piN o y hs:=by
 refine⟨λy=>?_,λo y=>?_⟩
 ·have:=cp_set (P:=piAt y) hp x
  rw [h1] at this
  unfold piH;omega
 ·have:=cp_set (P:=piFar o y) hp x
  rw [h2] at this
  unfold piN;omega
theorem PiW.same {t t':Nat} {ws:List Nat} {o:PinO} {hs hs':List (Option PiS×Nat)} (h:PiW n k t ws o hs) (ht:t<=t') (hH:∀ y,piH y hs'=piH y hs):PiW n k t' ws o hs':=by
 obtain⟨c,c1,c2,c3,c4⟩:=h.cell
 exact⟨h.wl,h.cl,h.nl,⟨c,c1,by omega,c3,λq hq=>by rw [hH];exact c4 q hq⟩,h.cm⟩
theorem taGot_in {wd:WD} {a:Nat} (h:a<wd.mem.ws.length):taGot wd a=wd.mem.ws.getD a 0:=by
 have ho:memOut wd.mem (a:Int)=false:=by unfold memOut;simp;omega
 unfold taGot memRead
 rw [if_neg (by rw [ho];simp)];simp
theorem taRead_ws (wd:WD) (a:Nat):(taRead wd a).mem.ws=wd.mem.ws:=by
 unfold taRead memRead
 split<;>rfl
theorem doWrite_ws {wd:WD} {a:Nat} (h:a<wd.mem.ws.length) (v:Nat):(doWrite wd a v).mem.ws=wd.mem.ws.set a v:=by
 have ho:memOut wd.mem (a:Int)=false:=by unfold memOut;simp;omega
 unfold doWrite memWrite
 simp only
 rw [if_neg (by rw [ho];simp)];simp
theorem doAdd_ws {wd:WD} {a:Nat} (h:a<wd.mem.ws.length) (v:Nat):(doAdd wd a v).mem.ws=wd.mem.ws.set a ((wd.mem.ws.getD a 0+v) % 18446744073709551616)/\adGot wd a v=wd.mem.ws.getD a 0:=by
 have ho:memOut wd.mem (a:Int)=false:=by unfold memOut;simp;omega
 unfold doAdd adGot memAdd
 simp only
 rw [if_neg (by rw [ho];simp)];simp
theorem pi_refuse {st:PlayD (pinS n k)} {q i:Nat} {er:Int} (hg:StGood calls st) (h:PiInv n k calls st) (hq:q<16) (hN:nowN calls st.fin (q:Int)=some i) (hh:(st.hands.getD q (none,0)).1=none) (hs:startD (pinS n k) st.obj (st.wd.tick.begin q) q (calls.getD i d0)=.refuse er):PiInv n k calls (refuseTo st q i er):=by
 obtain⟨e,he⟩:∃ e,e=finishEv (st.wd.tick.begin q) q ⟨er,0,[]⟩ [] (newEv i (st.wd.tick.begin q)):=⟨_,rfl⟩
 have hst:refuseTo st q i er={ wd:=st.wd.tick.begin q,obj:=st.obj,fin:=st.fin.set i true,hands:=st.hands.set q (none,st.evs.length),evs:=st.evs++[e],idle:=st.idle }:=by rw [he];rfl
 have est:e.steps=1:=by rw [he];rfl
 have hnx:=refuse_next hg hN e (by rw [he];rfl)
 have hk1:objOf calls e=0->kindOf calls e≠1:=by
  have e1:objOf calls e=(calls.getD i d0).obj:=by rw [he];rfl
  have e2:kindOf calls e=(calls.getD i d0).kind:=by rw [he];rfl
  rw [e1,e2]
  intro h0 h1
  unfold startD at hs
  rw [if_pos h0] at hs
  have e3:(pinS n k).start st.obj (st.wd.tick.begin q) q (calls.getD i d0)=.run (.rd 0 0 [] []):=if_pos h1
  rw [e3] at hs;cases hs
 obtain⟨s1,s2⟩:=pi_same (hs:=st.hands) (p:=q) (Nat.lt_of_lt_of_eq hq hg.h16.symm) (none,st.evs.length) (λy=>congrArg (piAt y) hh) (λo y=>congrArg (piFar o y) hh)
 rw [hst]
 refine pi_rest hg h hq hnx rfl (h.w.same (Nat.le_succ _) s1) (λp s2' e2 hpq _ hp=>?_) (λs1 j1 hx=>by cases hx) (λq2 hq2 hn2=>?_) (λ_=>⟨by omega,λ_=>by omega,λh0 h1=>absurd h1 (hk1 h0)⟩)
 ·match s2',hp with
  | .wr v q' i' ph,hp=>exact wr_keep hp (λ_ _ _ _=>rfl) (λy=>Nat.le_of_eq (s2 _ y)) (λy _=>Nat.le_of_eq (s1 y))
  | .rd q' j' l' key',hp=>exact rd_keep hp (λ_ _ _=>rfl)
 ·refine h.cont q2 hq2 (λv i' ph j hp=>?_)
  by_cases hq0:q=0
  ·subst hq0
   have:(st.hands.getD 0 (none,0)).1=some (.wr v q2 i' ph):=congrArg Prod.fst hp
   rw [hh] at this;cases this
  ·refine hn2 v i' ph j ?_
   show(st.hands.set q (none,st.evs.length)).getD 0 (none,0)=_
   rw [hands_set hg.h16 hq,if_neg (Ne.symm hq0)]
   exact hp
end
section

/- Layer 14: what every play of a register keeps: a look; to come; to leave; to read a word. -/
open Go.RowKit
variable {n k:Nat} {calls:List CallD}
theorem cp_put {P:Option PiS->Bool} {hs:List (Option PiS×Nat)} {p:Nat} (hp:p<hs.length) (x:Option PiS×Nat) {b1 b2:Bool} (h1:P (hs.getD p (none,0)).1=b1) (h2:P x.1=b2):(hs.set p x).countP (λh=>P h.1)+b1.toNat=hs.countP (λh=>P h.1)+b2.toNat:=by
 have h:=cp_set (P:=P) hp x
 rw [h1,h2] at h
 cases b1<;>cases b2<;>simpa using h
theorem pi_old {st:PlayD (pinS n k)} {q i j:Nat} {s:PiS} {evs0:List EvD} {wd0:WD} (hf:From calls st q i j s evs0 wd0) {s2:PiS} {j2:Nat} (h:st.hands.getD q (none,0)=(some s2,j2)):s2=s:=by
 rcases hf.or with⟨hh,_⟩|⟨hh,_⟩
 ·rw [h] at hh;cases hh;rfl
 ·rw [h] at hh;cases hh
theorem pi_others {st:PlayD (pinS n k)} {ws':List Nat} {hs':List (Option PiS×Nat)} (hw:∀ q a,q<=n->a<k->ws'.getD (piWord n k q a) 0=st.wd.mem.ws.getD (piWord n k q a) 0) (hN:∀ q,piN st.obj.now q hs'<=piN st.obj.now q st.hands) (hH:∀ q,q≠st.obj.now->piH q hs'<=piH q st.hands) {p:Nat} {s2:PiS} {e:EvD} (h:piHand n k calls st.wd.mem.ws st.obj st.hands p e s2):piHand n k calls ws' st.obj hs' p e s2:=by
 match s2,h with
 | .wr v q' i' ph,hp=>exact wr_keep hp hw hN hH
 | .rd q' j' l' key',hp=>exact rd_keep hp (λhj a ha=>hw q' a (hp.2.2.2.2 hj).1 ha)
theorem pi_cont {st:PlayD (pinS n k)} {q i j:Nat} {s:PiS} {evs0:List EvD} {wd0:WD} (hg:StGood calls st) (h:PiInv n k calls st) (hf:From calls st q i j s evs0 wd0) (hq:q<16) {x:Option PiS×Nat} {ws':List Nat} (hs:∀ v q' i' ph,s=.wr v q' i' ph->ph=0) (hw:∀ q a,q<=n->a<k->ws'.getD (piWord n k q a) 0=st.wd.mem.ws.getD (piWord n k q a) 0)
  (q2:Nat) (hq2:q2<=n) (hn2:∀ v i ph j,(st.hands.set q x).getD 0 (none,0)=(some (PiS.wr v q2 i ph),j)->ph=0):piGood k calls (λa=>ws'.getD (piWord n k q2 a) 0):=by
 have:=h.cont q2 hq2 (λv i' ph j2 hp=>by
  by_cases hq0:q=0
  ·subst hq0
   exact hs _ _ _ _ (pi_old hf hp).symm
  ·refine hn2 v i' ph j2 ?_
   exact((hands_set hg.h16 hq x 0).trans (if_neg (Ne.symm hq0))).trans hp)
 rcases this with h1|⟨c,c1,c2,c3,c4,c5⟩
 ·exact .inl λa ha=>(hw q2 a hq2 ha).trans (h1 a ha)
 ·exact .inr ⟨c,c1,c2,c3,c4,λa ha=>(hw q2 a hq2 ha).trans (c5 a ha)⟩
theorem pi_step_look {st:PlayD (pinS n k)} {q i j v q' iw:Nat} {evs0:List EvD} {wd0:WD} (hn:1<=n) (hk1:1<=k) (hthr:∀ c,c<calls.length->0<=(calls.getD c d0).thread/\(calls.getD c d0).thread<n) (hg:StGood calls st) (h:PiInv n k calls st) (hq:q<16) (hN:nowN calls st.fin (q:Int)=some i) (hf:From calls st q i j (.wr v q' iw 0) evs0 wd0) :
  PiInv n k calls (stepTo st ((pinS n k).step st.obj wd0 q (.wr v q' iw 0)) q i j evs0):=by
 obtain⟨g1,g2,g3,g4⟩:=pi_pre hn hthr hg h hf
 obtain⟨e0,he0⟩:∃ e0,e0=evAt evs0 j:=⟨_,rfl⟩
 rw [<-he0] at g1 g2
 obtain⟨p1,p2,p3,p4,p5⟩:=g2
 rcases p5 with⟨_,a2,a3,a4⟩|⟨a1,_⟩
 case inr=>omega
 subst a2
 have hqn:=pi_look p4 a3 a4
 have hws:wd0.mem.ws=st.wd.mem.ws:=by rw [hf.mem]
 have hgot:taGot wd0 (piLeft q')=st.wd.mem.ws.getD (1+q') 0:=by
  rw [taGot_in (by rw [hws,h.w.wl];exact piLeft_lt hqn),hws];rfl
 obtain⟨c,c1,c2,c3,c4⟩:=h.w.cell
 have hbal:=c4 q' hqn
 rw [if_neg p4,Nat.add_zero] at hbal
 have hw':(taRead wd0 (piLeft q')).mem.ws=st.wd.mem.ws:=(taRead_ws _ _).trans hws
 have hnow:(taRead wd0 (piLeft q')).now=st.wd.now+1:=hf.now
 have hnx:=hf.next hg hN (stepEv e0) (by rw [he0];rfl)
 have hopen:e0.resp=0:=by rw [he0];exact hf.open_
 have fin:∀ s':PiS,(∀ y,piAt y (some s')=false)->(∀ o y,piFar o y (some s')=false)->(∀ v q' i' ph,s'=.wr v q' i' ph->True)->
   (pinS n k).step st.obj wd0 q (.wr v q' 0 0)=(st.obj,taRead wd0 (piLeft q'),s',false)->((∀ y,piH y (st.hands.set q (some s',j))=piH y st.hands)->(∀ o y,piN o y (st.hands.set q (some s',j))=piN o y st.hands)->piHand n k calls st.wd.mem.ws st.obj (st.hands.set q (some s',j)) q (stepEv e0) s')->
   PiInv n k calls (stepTo st ((pinS n k).step st.obj wd0 q (.wr v q' 0 0)) q i j evs0):=by
  intro s' t1 t2 _ hst hS
  obtain⟨s1,s2⟩:=pi_same (hs:=st.hands) (p:=q) (Nat.lt_of_lt_of_eq hq hg.h16.symm) (some s',j) (λy=>(g3 y).trans (t1 y).symm) (λo y=>(g4 o y).trans (t2 o y).symm)
  have hto:stepTo st ((pinS n k).step st.obj wd0 q (.wr v q' 0 0)) q i j evs0={ wd:=taRead wd0 (piLeft q'),obj:=st.obj,fin:=st.fin,hands:=st.hands.set q (some s',j),evs:=evs0.set j (stepEv e0),idle:=st.idle }:=by rw [hst,he0];rfl
  rw [hto]
  refine pi_rest hg h hq hnx rfl ?_ (λp s2' e2 hpq _ hp=>?_) (λs1' j1 hx=>?_) (λq2 hq2 hn2=>?_) (λh0=>absurd (show e0.resp≠0 from h0) (by rw [hopen];simp))
  ·show PiW n k (taRead wd0 (piLeft q')).now (taRead wd0 (piLeft q')).mem.ws st.obj (st.hands.set q (some s',j))
   rw [hw',hnow]
   exact h.w.same (Nat.le_succ _) s1
  ·show piHand n k calls (taRead wd0 (piLeft q')).mem.ws st.obj (st.hands.set q (some s',j)) p e2 s2'
   rw [hw']
   exact pi_others (λ_ _ _ _=>rfl) (λy=>Nat.le_of_eq (s2 _ y)) (λy _=>Nat.le_of_eq (s1 y)) hp
  ·cases hx
   refine⟨rfl,g1,?_⟩
   show piHand n k calls (taRead wd0 (piLeft q')).mem.ws st.obj (st.hands.set q (some s',j)) q (stepEv e0) s'
   rw [hw'];exact hS s1 s2
  ·show piGood k calls (λa=>(taRead wd0 (piLeft q')).mem.ws.getD (piWord n k q2 a) 0)
   rw [hw']
   exact pi_cont hg h hf hq (λ_ _ _ _ e=>by cases e;rfl) (λ_ _ _ _=>rfl) q2 hq2 hn2
 by_cases hc:taGot wd0 (piLeft q')=st.obj.come.getD q' 0
 ·refine fin (.wr v q' 0 1) (λ_=>rfl) (λ_ _=>rfl) (λ_ _ _ _ _=>trivial) (if_pos hc) (λs1 s2=>⟨p1,p2,p3,p4,.inr ⟨Nat.le_refl _,by omega,hqn,?_,?_,Nat.zero_le _,λ_=>hk1,λh=>absurd h (by omega),λa ha=>absurd ha (Nat.not_lt_zero _)⟩⟩)
  ·rw [s1];rw [hgot] at hc;omega
  ·show e0.steps+1<=n+0;omega
 ·refine fin (.wr v (piNext st.obj.now (q'+1)) 0 0) (λ_=>rfl) (λ_ _=>rfl) (λ_ _ _ _ _=>trivial) (if_neg hc) (λs1 s2=>⟨p1,p2,p3,?_,.inl ⟨rfl,rfl,?_,?_⟩⟩)
  ·unfold piNext;split<;>omega
  ·show e0.steps+1+_=_
   unfold piNext
   split at a3<;>split<;>split<;>omega
  ·rw [s2]
   show _+(e0.steps+1)+1<=n
   have h1:=piFar_less (now:=st.obj.now) (q:=q') p4 st.hands
   have h2:=piFar_next (now:=st.obj.now) (q:=q'+1) st.hands
   rw [hgot] at hc
   omega
theorem pi_step_come {st:PlayD (pinS n k)} {q i j q':Nat} {l:List Nat} {key:List Int} {evs0:List EvD} {wd0:WD} (hn:1<=n) (hn16:n<=16) (ht:st.wd.now<=1000000) (hthr:∀ c,c<calls.length->0<=(calls.getD c d0).thread/\(calls.getD c d0).thread<n) (hg:StGood calls st) (h:PiInv n k calls st) (hq:q<16) (hN:nowN calls st.fin (q:Int)=some i) (hf:From calls st q i j (.rd q' 0 l key) evs0 wd0) :
  PiInv n k calls (stepTo st ((pinS n k).step st.obj wd0 q (.rd q' 0 l key)) q i j evs0):=by
 obtain⟨g1,g2,g3,g4⟩:=pi_pre hn hthr hg h hf
 obtain⟨e0,he0⟩:∃ e0,e0=evAt evs0 j:=⟨_,rfl⟩
 rw [<-he0] at g1 g2
 obtain⟨p1,p2,p3,p4,_⟩:=g2
 have hl:=p4 rfl
 subst hl
 have hws:wd0.mem.ws=st.wd.mem.ws:=by rw [hf.mem]
 obtain⟨c,c1,c2,c3,c4⟩:=h.w.cell
 have hnow:=h.w.nl
 have hlen:0<wd0.mem.ws.length:=by rw [hws,h.w.wl];omega
 obtain⟨d1,d2⟩:=doAdd_ws hlen 1
 rw [hws,c1] at d1 d2
 have hsum:(st.obj.now*4294967296+c+1) % 18446744073709551616=st.obj.now*4294967296+(c+1):=by omega
 have hbuf:(st.obj.now*4294967296+c) / 4294967296=st.obj.now:=by omega
 rw [hsum] at d1
 have hst:(pinS n k).step st.obj wd0 q (.rd q' 0 [] key)=(st.obj,doAdd wd0 0 1,.rd st.obj.now 1 [] (tickKey wd0),false):=by
  exact congrArg (λz=>(st.obj,doAdd wd0 0 1,PiS.rd z 1 [] (tickKey wd0),false)) (by rw [d2,hbuf])
 have hnow':(doAdd wd0 0 1).now=st.wd.now+1:=hf.now
 have hnx:=hf.next hg hN (stepEv e0) (by rw [he0];rfl)
 have hopen:e0.resp=0:=by rw [he0];exact hf.open_
 have hto:stepTo st ((pinS n k).step st.obj wd0 q (.rd q' 0 [] key)) q i j evs0={ wd:=doAdd wd0 0 1,obj:=st.obj,fin:=st.fin,hands:=st.hands.set q (some (.rd st.obj.now 1 [] (tickKey wd0)),j),evs:=evs0.set j (stepEv e0),idle:=st.idle }:=by rw [hst,he0];rfl
 have hq':q<st.hands.length:=Nat.lt_of_lt_of_eq hq hg.h16.symm
 have hH:∀ y,piH y (st.hands.set q (some (.rd st.obj.now 1 [] (tickKey wd0)),j))=piH y st.hands+(if y=st.obj.now then 1 else 0):=λy=>by
  have h1:=cp_put (P:=piAt y) (b1:=false) (b2:=decide (st.obj.now=y)) hq' (some (.rd st.obj.now 1 [] (tickKey wd0)),j) ((g3 y).trans (by simp [piAt])) (by simp [piAt])
  unfold piH
  by_cases hy:y=st.obj.now
  ·rw [if_pos hy];rw [decide_eq_true hy.symm] at h1;exact h1
  ·rw [if_neg hy];rw [decide_eq_false (Ne.symm hy)] at h1;exact h1
 have hNN:∀ y,piN st.obj.now y (st.hands.set q (some (.rd st.obj.now 1 [] (tickKey wd0)),j))=piN st.obj.now y st.hands:=λy=>by
  have h1:=cp_put (P:=piFar st.obj.now y) (b1:=false) (b2:=false) hq' (some (.rd st.obj.now 1 [] (tickKey wd0)),j) ((g4 _ y).trans (by simp [piFar])) (by simp [piFar])
  exact h1
 have hword:∀ q a,q<=n->a<k->(doAdd wd0 0 1).mem.ws.getD (piWord n k q a) 0=st.wd.mem.ws.getD (piWord n k q a) 0:=λq2 a _ _=>by
  rw [d1];exact getD_set_neq (Ne.symm (piWord_far (q':=0) (Nat.zero_le n)).1)
 rw [hto]
 refine pi_rest hg h hq hnx rfl ?_ (λp s2' e2 hpq _ hp=>?_) (λs1' j1 hx=>?_) (λq2 hq2 hn2=>?_) (λh0=>absurd (show e0.resp≠0 from h0) (by rw [hopen];simp))
 ·show PiW n k (doAdd wd0 0 1).now (doAdd wd0 0 1).mem.ws st.obj (st.hands.set q (some (.rd st.obj.now 1 [] (tickKey wd0)),j))
  rw [d1,hnow']
  have h0l:0<st.wd.mem.ws.length:=by rw [h.w.wl];omega
  refine⟨by rw [List.length_set];exact h.w.wl,h.w.cl,hnow,⟨c+1,getD_set_eq h0l,by omega,by omega,λq2 hq2=>?_⟩,h.w.cm⟩
  rw [getD_set_neq (by omega),hH]
  have:=c4 q2 hq2
  split at this<;>split<;>omega
 ·exact pi_others hword (λy=>Nat.le_of_eq (hNN y)) (λy hy=>by have:=hH y;rw [if_neg hy] at this;exact Nat.le_of_eq this) hp
 ·cases hx
  refine⟨rfl,g1,?_⟩
  refine⟨p1,by omega,?_,λh=>absurd h (by omega),λ_=>⟨hnow,rfl,λa ha=>absurd ha (by omega)⟩⟩
  show e0.steps+1=1
  omega
 ·exact pi_cont hg h hf hq (λ_ _ _ _ e=>by cases e) hword q2 hq2 hn2
end
end Go.Proofs.YtfkokppncipgnaaGreat
