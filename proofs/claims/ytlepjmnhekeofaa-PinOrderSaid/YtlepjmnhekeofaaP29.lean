/- Layer 14: the register as the loom's object: its machines answer, and start. -/
import Derived.Test.YtlepjmnhekeofaaP28
import Derived.Test.YtlepjmnhekeofaaP24
import Derived.Test.YtlepjmnhekeofaaP23
set_option maxRecDepth 100000
set_option linter.unusedVariables false
set_option linter.unusedSimpArgs false
set_option linter.unnecessarySimpa false
namespace Go.Proofs.Ytlepjmnhekeofaa
section
open Go.RowKit
theorem pwr_step_m (a : Addr) : Meth 205 (.pointer (some a)) "Step" 166 (.pointer (some a)) := ⟨fun _ _ => by kernel_rfl, fun _ _ => by kernel_rfl, fun _ _ => by kernel_rfl⟩
theorem pwr_answer_m (a : Addr) : Meth 205 (.pointer (some a)) "Answer" 165 (.pointer (some a)) := ⟨fun _ _ => by kernel_rfl, fun _ _ => by kernel_rfl, fun _ _ => by kernel_rfl⟩
theorem prd_step_m (a : Addr) : Meth 202 (.pointer (some a)) "Step" 164 (.pointer (some a)) := ⟨fun _ _ => by kernel_rfl, fun _ _ => by kernel_rfl, fun _ _ => by kernel_rfl⟩
theorem prd_answer_m (a : Addr) : Meth 202 (.pointer (some a)) "Answer" 163 (.pointer (some a)) := ⟨fun _ _ => by kernel_rfl, fun _ _ => by kernel_rfl, fun _ _ => by kernel_rfl⟩
theorem pin_start_m (a : Addr) : Meth 62 (.pointer (some a)) "Start" 111 (.pointer (some a)) := ⟨fun _ _ => by kernel_rfl, fun _ _ => by kernel_rfl, fun _ _ => by kernel_rfl⟩
theorem pwr_kind (v:Value) (u:World):(Instr.typeAssert (.iface 205 v) 115 146 true).run Try.prog u=.ok (.tuple #[.nilIface,.bool false]) u:=run_typeAssert_lacksB Try.underlying146 (by kernel_rfl) (by kernel_rfl) v _ u
theorem prd_kind (v:Value) (u:World):(Instr.typeAssert (.iface 202 v) 115 146 true).run Try.prog u=.ok (.tuple #[.nilIface,.bool false]) u:=run_typeAssert_lacksB Try.underlying146 (by kernel_rfl) (by kernel_rfl) v _ u
theorem enter_look (args:Array Value) (u:World):(callFunc 114 args).run Try.prog u=.ok (.enter 114 args) u:=by kernel_rfl
theorem enter_fill (args:Array Value) (u:World):(callFunc 116 args).run Try.prog u=.ok (.enter 116 args) u:=by kernel_rfl
theorem enter_change (args:Array Value) (u:World):(callFunc 122 args).run Try.prog u=.ok (.enter 122 args) u:=by kernel_rfl
theorem pwr_answer (b:Nat) (w:World):Calls Try.prog 165 #[.pointer (some ⟨b,0,none⟩)] w λe w'=>e=.returned (.tuple #[ansV 0 0 (.slice none 0 0),.slice none 0 0])/\Below w.heap.size w w':=by
 unfold ansV
 go_enter Try.func165,Try.ntmps165
 go_wp2
 exact bodyPost_ret (v:=.tuple #[.agg #[.int .i64 0,.int .u64 0,.slice none 0 0],.slice none 0 0]) (by simp [results,Try.results165 ,go_sem]) rfl ⟨rfl,Gr.new _ _⟩
theorem prd_answer (bP b q j ln lc kn kc:Nat) (la ka:Option Addr) (w:World) (h:w.heap[b]?=some (.cells (piRd bP q j (.slice la ln lc) (.slice ka kn kc)) 204 (0,0))) :
  Calls Try.prog 163 #[.pointer (some ⟨b,0,none⟩)] w λe w'=>e=.returned (.tuple #[ansV 0 0 (.slice la ln lc),.slice ka kn kc])/\Below w.heap.size w w':=by
 have hlt:=blk_lt h
 have hb2:(w.alloc (.cells #[.int .i64 0,.int .u64 0,.slice none 0 0] 42)).heap[b]?=_:=(Below.heap_alloc _ _ _ hlt).trans h
 have c3:(w.alloc (.cells #[.int .i64 0,.int .u64 0,.slice none 0 0] 42)).cell? ⟨b,3,none⟩=some (.slice la ln lc):=by rw [cell_blk hb2];rfl
 have c4:(w.alloc (.cells #[.int .i64 0,.int .u64 0,.slice none 0 0] 42)).cell? ⟨b,4,none⟩=some (.slice ka kn kc):=by rw [cell_blk hb2];rfl
 have d3:w.cell? ⟨b,3,none⟩=some (.slice la ln lc):=by rw [cell_blk h];rfl
 have d4:w.cell? ⟨b,4,none⟩=some (.slice ka kn kc):=by rw [cell_blk h];rfl
 have hne:w.heap.size≠b:=by omega
 have hne2:b≠w.heap.size:=by omega
 clear h hb2
 unfold ansV
 go_enter Try.func163,Try.ntmps163
 go_wp2_with fail
 go_region_held3 (λu=>u.cell? ⟨b,3,none⟩=some (.slice la ln lc)/\u.cell? ⟨b,4,none⟩=some (.slice ka kn kc)) (first|exact⟨c3,c4⟩|exact⟨(World.cell?_alloc_lt _ _ _ hlt).trans d3,(World.cell?_alloc_lt _ _ _ hlt).trans d4⟩|go_keep) (fail)
 all_goals
  go_wp2
  exact bodyPost_ret (v:=.tuple #[.agg #[.int .i64 0,.int .u64 0,.slice la ln lc],.slice ka kn kc]) (by simp [results,Try.results163 ,go_sem]) rfl ⟨rfl,by first|exact(Gr.new _ _).drew|exact Gr.new _ _⟩
theorem pin_blks (w:World) (th ob kd ca cb cc:Int):∃ wa,wa=w.alloc (.cells #[.int .i64 th,.int .i64 ob,.int .i64 kd,.int .u64 ca,.int .u64 cb,.int .u64 cc] 46)/\Below w.heap.size w wa/\wa.heap.size=w.heap.size+1/\
  wa.heap[w.heap.size]?=some (.cells #[.int .i64 th,.int .i64 ob,.int .i64 kd,.int .u64 ca,.int .u64 cb,.int .u64 cc] 46 (0,0)):=
 ⟨_,rfl,Gr.new _ _,by simp,heap_alloc_new _ _⟩
def piM (bP bC n k:Nat) (w:World) (Mut B:Nat->Prop) (T:TypeId) (x:Value) (_:Nat):PiS->Prop
 | .wr v q i ph=>T=205/\∃ b,x=.pointer (some ⟨b,0,none⟩)/\w.heap[b]?=some (.cells (piWr bP b v q i ph) 207 (0,0))/\B b
 | .rd q j l key=>T=202/\∃ b la lc kv,x=.pointer (some ⟨b,0,none⟩)/\w.heap[b]?=some (.cells (piRd bP q j (.slice la l.length lc) kv) 204 (0,0))/\B b/\Lst w Mut kv key/\
  ((j<=k+1/\w.ownsRow 0 40 1 (.slice la l.length lc) l.length (l.map u64V)/\∀ g,(Value.slice la l.length lc).ownBlock=some g->B g/\g≠b)∨(k+2<=j/\LstU w Mut (.slice la l.length lc) l))
def piLive (n k:Nat):PiS->Prop
 | .wr _ q i ph=>q<=n/\(ph=1->i<k)
 | .rd q j l _=>l.length<=100/\(1<=j->q<=100)/\j<=k+1
def pinR (n k bP bC:Nat):Real (pinS n k) where
 T:=62
 x:=.pointer (some ⟨bP,0,none⟩)
 OB:=λb=>b=bP∨b=bC
 ORep:=λw Mut o=>PinAt w bP bC n k o/\Mut bP/\Mut bC
 MRep:=piM bP bC n k
 inv:=λ_ _=>True
 dN:=1
 live:=λ_ _ _ s=>piLive n k s
 done:=λs=>match s with
  | .wr _ _ _ _=>True
  | .rd _ j _ _=>k+2<=j
set_option maxHeartbeats 8000000 in
theorem pin_start (n k bP bC:Nat) (hn:n<=16) (hPC:bP≠bC) (w:World) (Mut:Nat->Prop) (I:WIds) (N:Nat) (wd:WD) (o:PinO) (p:Nat) (c:CallD) (hw:WorldAt w Mut I N wd) (ho:PinAt w bP bC n k o/\Mut bP/\Mut bC) (hp:p<16) (hc:CallOk c) :
  Calls Try.prog 111 #[.pointer (some ⟨bP,0,none⟩),.pointer (some ⟨I.bW,0,none⟩),.int .i64 (p:Int),callAgg c] w (StartPost (pinR n k bP bC) w Mut I wd o p c):=by
 obtain⟨th,ob,kd,ca,cb,cc⟩:=c
 have hlow:=hw.low
 obtain⟨hP,hm1,hm2⟩:=ho
 unfold callAgg
 simp only
 have hPl:=hlow _ hm1
 have nm:∀(d k:Nat),w.heap.size<=k->k≠d->¬ (mutTo Mut noB (λb=>b=d) k):=λd k hk hkd=>by
  rintro(⟨hx,_⟩|hx)
  ·have:=hlow _ hx;omega
  ·exact hkd hx
 have Nm:=Lib.hid nm
 obtain⟨wa,hwa,hga,hsz,ha1⟩:=pin_blks w th ob kd (ca:Int) (cb:Int) (cc:Int)
 have f2:wa.cell? ⟨w.heap.size,2,none⟩=some (.int .i64 kd):=by rw [cell_blk ha1];rfl
 have f3:wa.cell? ⟨w.heap.size,3,none⟩=some (.int .u64 (ca:Int)):=by rw [cell_blk ha1];rfl
 have hPa:=hP.chg (Chg.of_below (S:=noB) hga) (λh=>h) (λh=>h)
 have STh:=Lib.hid (show(pinS n k).start o wd p ⟨th,ob,kd,ca,cb,cc⟩=(if kd=1 then Mc.run (PiS.rd 0 0 [] []) else if kd≠0 then .refuse 9 else if p≠0 then .refuse 11 else .run (.wr ca (piNext o.now 0) 0 0)) from rfl)
 have Hwa:=Lib.hid hwa;have Hga:=Lib.hid hga;have Hsz:=Lib.hid hsz;have HPa:=Lib.hid hPa
 clear hw hc hlow hP hm1 hm2 nm hwa hga hsz ha1 hPa hp
 by_cases h1:kd=1
 ·have Hst:=Lib.hid (show(pinS n k).start o wd p ⟨th,ob,kd,ca,cb,cc⟩=.run (.rd 0 0 [] []) by rw [STh.out,if_pos h1];rfl)
  subst h1
  go_enter Try.func111,Try.ntmps111
  go_upto_region 1 with fail
  rw [<-Hwa.out]
  go_wp2
  go_ret
  have hblk:=heap_alloc_new wa (.cells (piRd bP 0 0 (.slice none 0 0) (.slice none 0 0)) 204 (0,0))
  refine⟨_,_,λb=>b=wa.heap.size,rfl,Gr.trans Hga.out (Gr.new _ _),λb hb=>by subst hb;have:=Hsz.out;exact⟨by omega,by simp⟩,?_⟩
  rw [Hst.out]
  exact⟨rfl,wa.heap.size,none,0,.slice none 0 0,rfl,hblk,rfl,Lst.nil _ _,.inl ⟨Nat.zero_le _,World.ownsRow_nil _ _ _ _,λg hg=>by cases hg⟩⟩
 by_cases h0:kd=0
 ·by_cases hp0:p=0
  ·have Hst:=Lib.hid (show(pinS n k).start o wd p ⟨th,ob,kd,ca,cb,cc⟩=.run (.wr ca (piNext o.now 0) 0 0) by rw [STh.out,if_neg h1,if_neg (by simpa using h0),if_neg (by simpa using hp0)];rfl)
   obtain⟨wb,hwb⟩:∃ wb,wb=wa.alloc (.cells #[.pointer (some ⟨bP,0,none⟩),.int .u64 (ca:Int),.int .i64 ((0:Nat):Int),.int .i64 ((0:Nat):Int),.nilFunc] 207):=⟨_,rfl⟩
   have hgb:Below wa.heap.size wa wb:=by rw [hwb];exact Gr.new _ _
   have hbb:wb.heap[wa.heap.size]?=some (.cells #[.pointer (some ⟨bP,0,none⟩),.int .u64 (ca:Int),.int .i64 ((0:Nat):Int),.int .i64 ((0:Nat):Int),.nilFunc] 207 (0,0)):=by rw [hwb];exact heap_alloc_new _ _
   have NX:=Lib.hid (wr_next bP bC n k o.last o.now wa.heap.size ca 0 0 .nilFunc (by omega) wb (HPa.out.chg (Chg.of_below (S:=noB) hgb) (λh=>h) (λh=>h)).blk hbb (by have:=Hsz.out;omega))
   have Hwb:=Lib.hid (show wb=wa.alloc (.cells #[.pointer (some ⟨bP,0,none⟩),.int .u64 (ca:Int),.int .i64 0,.int .i64 0,.nilFunc] 207) from hwb);have Hgb:=Lib.hid hgb
   obtain⟨A,hA⟩:∃ A,A=wa.heap.size:=⟨_,rfl⟩
   have HA:=Lib.hid hA
   rw [<-hA] at NX
   clear hwb hgb hbb h1
   subst h0
   subst hp0
   clear hA
   go_enter Try.func111,Try.ntmps111
   go_upto_region 1 with fail
   rw [<-Hwa.out]
   go_upto_region 8 with fail
   rw [<-Hwb.out,<-HA.out]
   go_wp2_with fail
   refine NX.out.mono ?_
   rintro e w3 ⟨rfl,hc3,hbk3⟩
   have e4:w3.cell? ⟨A,4,none⟩=some .nilFunc:=by rw [cell_blk hbk3];rfl
   have f4:=frozen_blk hbk3 4
   obtain⟨w4,hw4⟩:∃ w4,w4=w3.setCell ⟨A,4,none⟩ (.func (.func 114) #[.pointer (some ⟨A,0,none⟩)] #[]):=⟨_,rfl⟩
   have hc4:Chg (λj=>j=A) w3 w4:=by rw [hw4];exact(Chg.refl (λj=>j=A) w3).setCell (by exact .inl rfl) _
   have hb4:w4.heap[A]?=some (.cells (piWr bP A ca (piNext o.now 0) 0 0) 207 (0,0)):=by rw [hw4,blk_set hbk3];rfl
   have hall:Chg (λj=>w.heap.size<=j) w w4:=by
    have h5:=Hsz.out;have h6:=HA.out
    exact(((Chg.of_below Hga.out).trans (Chg.of_below Hgb.out)).trans (hc3.mono (λj _ h=>by omega))).trans (hc4.mono (λj _ h=>by omega))
   have F:=Lib.hid (show StartPost (pinR n k bP bC) w Mut I wd o 0 ⟨th,ob,0,ca,cb,cc⟩ (.returned (.iface 205 (.pointer (some ⟨A,0,none⟩)))) w4 from by
    have h5:=Hsz.out;have h6:=HA.out
    refine⟨_,_,λb=>b=A,rfl,hall.below (λj h=>h) (Nat.le_refl _),λb hb=>by subst hb;exact⟨by omega,blk_lt hb4⟩,?_⟩
    rw [Hst.out]
    exact⟨rfl,A,rfl,hb4,rfl⟩)
   have Hw4:=Lib.hid hw4
   clear hc3 hbk3 hw4 hc4 hb4 hall
   go_wp2
   rw [<-Hw4.out]
   go_ret
   exact F.out
  ·have Hst:=Lib.hid (show(pinS n k).start o wd p ⟨th,ob,kd,ca,cb,cc⟩=.refuse 11 by rw [STh.out,if_neg h1,if_neg (by simpa using h0),if_pos hp0];rfl)
   have Rf:=Lib.hid (refuse_any 11)
   have hpi:((p:Int) != 0)=true:=by simp;omega
   subst h0
   clear h1 hp0
   go_enter Try.func111,Try.ntmps111
   go_upto_region 1 with fail
   rw [<-Hwa.out]
   go_wp2_with (go_at_call 85;refine(Rf.out _).mono ?_;rintro e w' ⟨rfl,hrf,hbr⟩)
   go_ret
   have hsw:=Hsz.out
   refine⟨_,_,λb=>b=wa.heap.size+1,rfl,Gr.trans Hga.out hbr,λb hb=>by subst hb;exact⟨by omega,blk_lt hrf.1⟩,?_⟩
   rw [Hst.out]
   exact⟨rfl,wa.heap.size+1,wa.heap.size,rfl,hrf,rfl,Nm.out _ _ (by omega) (by omega)⟩
 ·have Hst:=Lib.hid (show(pinS n k).start o wd p ⟨th,ob,kd,ca,cb,cc⟩=.refuse 9 by rw [STh.out,if_neg h1,if_pos h0];rfl)
  have Rf:=Lib.hid (refuse_any 9)
  have q1:(kd != 0)=true:=by simp [h0]
  have q0:(kd == 1)=false:=by simp [h1]
  go_enter Try.func111,Try.ntmps111
  go_upto_region 1 with fail
  rw [<-Hwa.out]
  go_wp2_with (go_at_call 85;refine(Rf.out _).mono ?_;rintro e w' ⟨rfl,hrf,hbr⟩)
  go_ret
  have hsw:=Hsz.out
  refine⟨_,_,λb=>b=wa.heap.size+1,rfl,Gr.trans Hga.out hbr,λb hb=>by subst hb;exact⟨by omega,blk_lt hrf.1⟩,?_⟩
  rw [Hst.out]
  exact⟨rfl,wa.heap.size+1,wa.heap.size,rfl,hrf,rfl,Nm.out _ _ (by omega) (by omega)⟩
end
section

/- Layer 14: what every play of a register keeps: how a turn begins, and what it leaves alone. -/
open Go.RowKit
variable {n k:Nat} {calls:List CallD}
theorem pi_none {st:PlayD (pinS n k)} (hthr:∀ c,c<calls.length->0<=(calls.getD c d0).thread/\(calls.getD c d0).thread<n) (hg:StGood calls st) {p:Nat} (hp:n<=p):(st.hands.getD p (none,0)).1=none:=by
 cases hh:st.hands.getD p (none,0) with
 | mk m j=>
  cases m with
  | none=>rfl
  | some s=>
   have hN:=(hg.ev.hand p j (by unfold hndOf;rw [hh];rfl)).2.2.2
   have h1:=nowN_spec hN
   have h2:=hthr _ h1.1
   rw [h1.2.1] at h2
   omega
theorem pi_first {st:PlayD (pinS n k)} (hn:1<=n) (hthr:∀ c,c<calls.length->0<=(calls.getD c d0).thread/\(calls.getD c d0).thread<n) (hg:StGood calls st) (h0:(st.hands.getD 0 (none,0)).1=none) (now q:Nat):piN now q st.hands+1<=n:=
 cp_bound (P:=piFar now q) hn (congrArg (piFar now q) h0) (λp hp=>congrArg (piFar now q) (pi_none hthr hg hp)) rfl
theorem pi_pre {st:PlayD (pinS n k)} {q i j:Nat} {s:PiS} {evs0:List EvD} {wd0:WD} (hn:1<=n) (hthr:∀ c,c<calls.length->0<=(calls.getD c d0).thread/\(calls.getD c d0).thread<n) (hg:StGood calls st) (h:PiInv n k calls st) (hf:From calls st q i j s evs0 wd0) :
  objOf calls (evAt evs0 j)=0/\piHand n k calls st.wd.mem.ws st.obj st.hands q (evAt evs0 j) s/\(∀ x,piAt x (st.hands.getD q (none,0)).1=piAt x (some s))/\(∀ o x,piFar o x (st.hands.getD q (none,0)).1=piFar o x (some s)):=by
 rcases hf.or with⟨hh,hk,hc,hr,rfl,rfl⟩|⟨hh,hs,rfl,rfl,rfl⟩
 ·obtain⟨g1,g2⟩:=h.hand q s j hh
  exact⟨g1,g2,λx=>congrArg (piAt x) (congrArg Prod.fst hh),λo x=>congrArg (piFar o x) (congrArg Prod.fst hh)⟩
 ·have he:evAt (st.evs++[newEv i (st.wd.tick.begin q)]) st.evs.length=newEv i (st.wd.tick.begin q):=evAt_last
  rw [he]
  unfold startD at hs
  have ho:objOf calls (newEv i (st.wd.tick.begin q))=(calls.getD i d0).obj:=rfl
  have hkd:kindOf calls (newEv i (st.wd.tick.begin q))=(calls.getD i d0).kind:=rfl
  rw [ho]
  by_cases ho0:(calls.getD i d0).obj=0
  ·rw [if_pos ho0] at hs
   refine⟨ho0,?_⟩
   by_cases hk1:(calls.getD i d0).kind=1
   ·have e1:(pinS n k).start st.obj (st.wd.tick.begin q) q (calls.getD i d0)=.run (.rd 0 0 [] []):=if_pos hk1
    rw [e1] at hs;cases hs
    exact⟨⟨by rw [hkd,hk1],Nat.zero_le _,rfl,λ_=>rfl,λh=>absurd h (by omega)⟩,λx=>(congrArg (piAt x) hh).trans (by simp [piAt]),λo x=>(congrArg (piFar o x) hh).trans (by simp [piFar])⟩
   by_cases hk0:(calls.getD i d0).kind=0
   ·by_cases hq0:q=0
    ·have e1:(pinS n k).start st.obj (st.wd.tick.begin q) q (calls.getD i d0)=.run (.wr (calls.getD i d0).a (piNext st.obj.now 0) 0 0):=(if_neg hk1).trans ((if_neg (by simpa using hk0)).trans (if_neg (by simpa using hq0)))
     rw [e1] at hs;cases hs
     subst hq0
     have h1:=pi_first hn hthr hg hh st.obj.now (piNext st.obj.now 0)
     refine⟨⟨rfl,by rw [hkd,hk0],rfl,?_,.inl ⟨rfl,rfl,?_,h1⟩⟩,λx=>(congrArg (piAt x) hh).trans rfl,λo x=>(congrArg (piFar o x) hh).trans rfl⟩
     ·unfold piNext;split<;>omega
     ·show 0+_=_
      unfold piNext;split<;>split<;>omega
    ·have e1:(pinS n k).start st.obj (st.wd.tick.begin q) q (calls.getD i d0)=.refuse 11:=(if_neg hk1).trans ((if_neg (by simpa using hk0)).trans (if_pos hq0))
     rw [e1] at hs;cases hs
   ·have e1:(pinS n k).start st.obj (st.wd.tick.begin q) q (calls.getD i d0)=.refuse 9:=(if_neg hk1).trans (if_pos hk0)
    rw [e1] at hs;cases hs
  ·rw [if_neg ho0] at hs;cases hs
theorem pi_live {ws:List Nat} {o:PinO} {hs:List (Option PiS×Nat)} {p:Nat} {e:EvD} {s:PiS} (hn:n<=16) (hk:k<=8) (h:piHand n k calls ws o hs p e s):piLive n k s:=by
 match s,h with
 | .wr v q i ph,⟨h1,h2,h3,h4,h5⟩=>
  rcases h5 with⟨a1,a2,a3,a4⟩|⟨a1,a2,a3,a4,a5,a6,a7,a8,a9⟩
  ·exact⟨pi_look h4 a3 a4,λh=>by omega⟩
  ·exact⟨a3,a7⟩
 | .rd q j l key,⟨h1,h2,h3,h4,h5⟩=>
  refine⟨?_,λh=>by have:=(h5 h).1;omega,h2⟩
  rcases Nat.eq_zero_or_pos j with h0|h0
  ·rw [h4 h0];exact Nat.zero_le _
  ·have:=(h5 h0).2.1;omega
theorem rd_keep {ws ws':List Nat} {o o':PinO} {hs hs':List (Option PiS×Nat)} {p q j:Nat} {l:List Nat} {key:List Int} {e:EvD} (h:piHand n k calls ws o hs p e (.rd q j l key)) (hw:1<=j->∀ a,a<k->ws'.getD (piWord n k q a) 0=ws.getD (piWord n k q a) 0):piHand n k calls ws' o' hs' p e (.rd q j l key):=by
 obtain⟨h1,h2,h3,h4,h5⟩:=h
 exact⟨h1,h2,h3,h4,λhj=>⟨(h5 hj).1,(h5 hj).2.1,λa ha=>((h5 hj).2.2 a ha).trans (hw hj a (by omega)).symm⟩⟩
theorem wr_keep {ws ws':List Nat} {o:PinO} {hs hs':List (Option PiS×Nat)} {p v q i ph:Nat} {e:EvD} (h:piHand n k calls ws o hs p e (.wr v q i ph)) (hw:∀ q a,q<=n->a<k->ws'.getD (piWord n k q a) 0=ws.getD (piWord n k q a) 0) (hN:∀ q,piN o.now q hs'<=piN o.now q hs) (hH:∀ q,q≠o.now->piH q hs'<=piH q hs):piHand n k calls ws' o hs' p e (.wr v q i ph):=by
 obtain⟨h1,h2,h3,h4,h5⟩:=h
 refine⟨h1,h2,h3,h4,?_⟩
 rcases h5 with⟨a1,a2,a3,a4⟩|⟨a1,a2,a3,a4,a5,a6,a7,a8,a9⟩
 ·have:=hN q
  exact .inl ⟨a1,a2,a3,by omega⟩
 ·have:=hH q h4
  exact .inr ⟨a1,a2,a3,by omega,a5,a6,a7,a8,λa ha=>(hw q a a3 (by omega)).trans (a9 a ha)⟩
theorem pi_rest {st st':PlayD (pinS n k)} {q j:Nat} {e1:EvD} {x:Option (pinS n k).σ×Nat} (hg:StGood calls st) (h:PiInv n k calls st) (hq:q<16) (hx:Next calls st q st'.evs j e1) (hh:st'.hands=st.hands.set q x)
  (hW:PiW n k st'.wd.now st'.wd.mem.ws st'.obj st'.hands)
  (hO:∀ p s2 e,p≠q->(∃ j2,st.hands.getD p (none,0)=(some s2,j2))->piHand n k calls st.wd.mem.ws st.obj st.hands p e s2->piHand n k calls st'.wd.mem.ws st'.obj st'.hands p e s2)
  (hS:∀ s1 j1,x=(some s1,j1)->j1=j/\objOf calls e1=0/\piHand n k calls st'.wd.mem.ws st'.obj st'.hands q e1 s1)
  (hC:∀ q,q<=n->(∀ v i ph j,st'.hands.getD 0 (none,0)=(some (.wr v q i ph),j)->ph=0)->piGood k calls (λa=>st'.wd.mem.ws.getD (piWord n k q a) 0))
  (hD:e1.resp≠0->piDone n k calls e1):PiInv n k calls st':=by
 refine⟨hW,λp s j2 hp=>?_,hC,λj2 hj hr=>?_⟩
 ·rw [hh,hands_set hg.h16 hq] at hp
  split at hp
  ·rename_i hpq
   obtain⟨rfl,g1,g2⟩:=hS s j2 hp
   subst hpq
   rw [hx.self]
   exact⟨g1,g2⟩
  ·rename_i hpq
   obtain⟨a1,a2⟩:=hx.apart p s j2 hpq hp
   have e:=(hx.other j2 (Nat.lt_of_lt_of_le a2 hx.size) a1).2
   obtain⟨g1,g2⟩:=h.hand p s j2 hp
   rw [e]
   exact⟨g1,hO p s _ hpq ⟨j2,hp⟩ g2⟩
 ·by_cases hjj:j2=j
  ·subst hjj
   rw [hx.self] at hr ⊢
   exact hD hr
  ·obtain⟨a1,e⟩:=hx.other j2 hj hjj
   rw [e] at hr ⊢
   exact h.done j2 a1 hr
end
end Go.Proofs.Ytlepjmnhekeofaa
