/- Layer 10: a way down: it looks, and tells set ticks. -/
import Derived.Test.YtifhldnmcdbpfaaW21
import Derived.Test.YtifhldnmcdbpfaaW13
set_option maxRecDepth 100000
set_option linter.unusedVariables false
set_option linter.unusedSimpArgs false
set_option linter.unnecessarySimpa false
namespace Go.Proofs.Ytifhldnmcdbpfaa
open Go.RowKit
theorem BS {S S1:Nat->Prop} {a b c:World} (h:Chg S a b) (k:Chg S1 b c) (hs:∀ x,x<a.heap.size->S1 x->S x):Chg S a c:=
 ⟨k.os.trans h.os,k.tape.trans h.tape,k.output.trans h.output,Nat.le_trans h.size k.size,λi hi hn=>(k.block i (Nat.lt_of_lt_of_le hi h.size) (λx=>hn (hs i hi x))).trans (h.block i hi hn)⟩
theorem lC {w w':World} {Mut:Nat->Prop} {I:dG} {N:Nat} {wd:WD} (h:aM w Mut I N wd) (hb:Below w.heap.size w w'):aM w' Mut I N wd:=
 h.keep (S:=noB) (Chg.of_below hb) (λ_ h=>h.elim) (λ_ h=>h.elim) (aV.refl _ _) (λk hk=>Nat.lt_of_lt_of_le (h.low k hk) hb.size) h.muts
theorem kJ {Mut B:Nat->Prop} (hB:∀ k,B k->Mut k):aT Mut B B=Mut:=by
 funext k
 apply propext
 unfold aT
 constructor
 ·rintro(⟨h1,_⟩|h1)
  ·exact h1
  ·exact hB k h1
 ·intro h1
  by_cases h:B k
  ·exact .inr h
  ·exact .inl ⟨h1,h⟩
theorem xQ {Mut B B1 B2:Nat->Prop} {n:Nat} (hl:∀ k,Mut k->k<n) (h1:∀ k,B1 k->B k∨n<=k):aT (aT Mut B B1) B1 B2=aT Mut B B2:=by
 funext k
 apply propext
 unfold aT
 constructor
 ·rintro(⟨⟨h2,h3⟩|h2,h4⟩|h2)
  ·exact .inl ⟨h2,h3⟩
  ·exact absurd h2 h4
  ·exact .inr h2
 ·rintro(⟨h2,h3⟩|h2)
  ·refine .inl ⟨.inl ⟨h2,h3⟩,λh4=>?_⟩
   rcases h1 k h4 with h5|h5
   ·exact h3 h5
   ·have:=hl k h2;omega
  ·exact .inr h2
structure aU (w w':World) (Mut:Nat->Prop) (I:dG) (N':Nat) (wd':WD) (bm:Nat) (rest':List Value) (T:TypeId) (b m p:Nat) (tv:Value) (y':dQ) (tv':Value):Prop where
 way:bV w' bm rest' T b m p y' tv'
 world:aM w' (aT Mut (bC bm tv) (bC bm tv')) I N' wd'
 chg:Chg (λk=>aW I k∨bC bm tv k) w w'
 sub:∀ k,bC bm tv' k->bC bm tv k∨w.heap.size<=k
 low:∀ k,Mut k->k<w.heap.size
 own:∀ k,bC bm tv' k->¬ aW I k
variable {w w' w2:World} {Mut:Nat->Prop} {I:dG} {N N' N2:Nat} {wd wd' wd2:WD} {bm:Nat} {rest rest' mH:List Value} {T:TypeId} {b m p:Nat} {y y' y2:dQ} {tv tv' kI:Value}
theorem aU.muts (h:aU w w' Mut I N' wd' bm rest' T b m p tv y' tv'):∀ k,bC bm tv' k->aT Mut (bC bm tv) (bC bm tv') k/\¬ aW I k:=λk hk=>⟨.inr hk,h.own k hk⟩
theorem aU.refl (hw:aM w Mut I N wd) (h:bV w bm rest T b m p y tv) (hB:∀ k,bC bm tv k->Mut k/\¬ aW I k):aU w w Mut I N wd bm rest T b m p tv y tv:=
 ⟨h,by rw [kJ (λk hk=>(hB k hk).1)];exact hw,Chg.refl _ _,λk hk=>.inl hk,hw.low,λk hk=>(hB k hk).2⟩
theorem aU.trans (h:aU w w' Mut I N' wd' bm rest' T b m p tv y' tv') (k:aU w' w2 (aT Mut (bC bm tv) (bC bm tv')) I N2 wd2 bm mH T b m p tv' y2 kI):aU w w2 Mut I N2 wd2 bm mH T b m p tv y2 kI:=
 ⟨k.way,by have h9:=k.world;rw [xQ h.low h.sub] at h9;exact h9,BS h.chg k.chg (λx hx hs=>by
  rcases hs with hs|hs
  ·exact .inl hs
  ·rcases h.sub x hs with h9|h9
   ·exact .inr h9
   ·omega),λx hx=>by
  rcases k.sub x hx with h9|h9
  ·exact h.sub x h9
  ·exact .inr (Nat.le_trans h.chg.size h9),h.low,k.own⟩
theorem aU.of_way (hw:aM w Mut I N wd) (hB:∀ k,bC bm tv k->Mut k/\¬ aW I k) (h':bV w' bm rest' T b m p y' tv') (hc:Chg (bC bm tv) w w') (hs:∀ k,bC bm tv' k->bC bm tv k∨w.heap.size<=k):aU w w' Mut I N wd bm rest' T b m p tv y' tv':=by
 have ho:∀ k,bC bm tv' k->¬ aW I k:=λk hk hS=>by
  rcases hs k hk with h9|h9
  ·exact(hB k h9).2 hS
  ·have:=hw.low k (hw.muts k hS);omega
 refine⟨h',hw.keep hc (λk hk=>(hB k hk).1) (λk hk=>(hB k hk).2) ?_ ?_ ?_,hc.mono (λk _ hk=>.inr hk),hs,hw.low,ho⟩
 ·rintro k (⟨h1,_⟩|h1)
  ·exact .inl h1
  ·rcases hs k h1 with h9|h9
   ·exact .inl (hB k h9).1
   ·exact .inr h9
 ·rintro k (⟨h1,_⟩|h1)
  ·exact Nat.lt_of_lt_of_le (hw.low k h1) hc.size
  ·exact h'.lt k h1
 ·intro k hk
  exact .inl ⟨hw.muts k hk,λh9=>(hB k h9).2 hk⟩
theorem aU.of_world (hw:aM w Mut I N wd) (h:bV w bm rest T b m p y tv) (hB:∀ k,bC bm tv k->Mut k/\¬ aW I k) (hw':aM w' Mut I N' wd') (hc:Chg (aW I) w w'):aU w w' Mut I N' wd' bm rest T b m p tv y tv:=
 ⟨h.chg hc (λk hk=>(hB k hk).2),by rw [kJ (λk hk=>(hB k hk).1)];exact hw',hc.mono (λk _ hk=>.inl hk),λk hk=>.inl hk,hw.low,λk hk=>(hB k hk).2⟩
theorem aU.of_put (hw:aM w Mut I N wd) (h:bV w bm rest T b m p y tv) (hB:∀ k,bC bm tv k->Mut k/\¬ aW I k) (hc:Chg (λk=>k=bm) w w') (hb:w'.heap[bm]?=some (.cells (jM b m p y' tv++rest').toArray T (0,0))) (ht:y'.turns=y.turns):aU w w' Mut I N wd bm rest' T b m p tv y' tv:=by
 have hc':Chg (bC bm tv) w w':=hc.mono (λk _ hk=>.inl hk)
 refine aU.of_way hw hB ⟨hb,?_,h.typ⟩ hc' (λk hk=>.inl hk)
 rw [ht]
 exact iA h.row hc (λk hk e=>h.na (by rw [<-e];exact hk))
theorem aU.turned2 (r:Bool) (hw:aM w Mut I N wd) (h:bV w bm rest T b m p y tv) (hB:∀ k,bC bm tv k->Mut k/\¬ aW I k) (hk:y.k<=100000) (hl:1<=y.left) (hl2:y.left<=1000) (hn:y.turns.length<=1000) :
  Calls Try.prog 158 #[.pointer (some ⟨bm,0,none⟩),.bool r] w λe w'=>e=.returned (.tuple #[])/\∃ tv',aU w w' Mut I N wd bm rest T b m p tv (y.turn r) tv'/\Chg (bC bm tv) w w':=by
 refine(yL r h hk hl hl2 hn).mono ?_
 rintro e w' ⟨rfl,tv',h1,h2,h3⟩
 exact⟨rfl,tv',aU.of_way hw hB h1 h2 h3,h2⟩
theorem aU.turned (r:Bool) (hw:aM w Mut I N wd) (h:bV w bm rest T b m p y tv) (hB:∀ k,bC bm tv k->Mut k/\¬ aW I k) (hk:y.k<=100000) (hl:1<=y.left) (hl2:y.left<=1000) (hn:y.turns.length<=1000) :
  Calls Try.prog 158 #[.pointer (some ⟨bm,0,none⟩),.bool r] w λe w'=>e=.returned (.tuple #[])/\∃ tv',aU w w' Mut I N wd bm rest T b m p tv (y.turn r) tv':=by
 refine(yL r h hk hl hl2 hn).mono ?_
 rintro e w' ⟨rfl,tv',h1,h2,h3⟩
 exact⟨rfl,tv',aU.of_way hw hB h1 h2 h3⟩
set_option maxHeartbeats 4000000 in
theorem wZ (hw:aM w Mut I N wd) (h:bV w bm rest T b m p y tv) (hB:∀ k,bC bm tv k->Mut k/\¬ aW I k) (hc:wd.mem.c.all+1<1000000000000) (hk:1<=y.k) (hk2:b+y.k<=1000000) :
  Calls Try.prog 164 #[.pointer (some ⟨bm,0,none⟩),.pointer (some ⟨I.bW,0,none⟩)] w λe w'=>e=.returned (.bool (eF wd b y))/\aU w w' Mut I N (dJ wd (b+y.k - 1)) bm rest T b m p tv (y.look wd) tv:=by
 obtain⟨s1,s2,s3⟩:=kH hw
 obtain⟨mks,hwb,_,_⟩:=hw.blk
 have hb:=h.blk
 have lb:=aC hb
 have lW:=hw.wlt
 obtain⟨nw,hnw⟩:∃ nw,nw=wd.now:=⟨_,rfl⟩
 have x0:w.cell? ⟨I.bW,0,none⟩=some (.pointer (some ⟨I.bm,0,none⟩)):=by rw [aA hwb];exact iV
 have x1:w.cell? ⟨I.bW,1,none⟩=some (.int .i64 (nw:Int)):=by rw [aA hwb,hnw];exact eO
 have f6:w.frozen? ⟨bm,6,none⟩=false:=aB hb _
 have o6:w.cell? ⟨bm,6,none⟩=some (.int .i64 (y.last:Int)):=by rw [aA hb];rfl
 have hne:bm≠I.bW:=λe=>(hB bm (.inl rfl)).2 (by rw [e];exact .inl rfl)
 obtain⟨wa,hwa⟩:∃ wa,wa=w.setCell ⟨bm,6,none⟩ (.int .i64 (nw:Int)):=⟨_,rfl⟩
 have hca:Chg (λk=>k=bm) w wa:=by rw [hwa];exact(Chg.refl (λk=>k=bm) w).setCell (by exact .inl rfl) _
 have hba:wa.heap[bm]?=some (.cells (jM b m p (y.look wd) tv++rest).toArray T (0,0)):=by rw [hwa,aH hb,hnw];rfl
 have W1:=aU.of_put hw h hB hca hba rfl
 have e0:=kJ (λk hk=>(hB k hk).1)
 have hwA:aM wa Mut I N wd:=by have h9:=W1.world;rw [e0] at h9;exact h9
 obtain⟨mka,hwba,_,_⟩:=hwA.blk
 have a0:wa.cell? ⟨I.bW,0,none⟩=some (.pointer (some ⟨I.bm,0,none⟩)):=by rw [aA hwba];exact iV
 have y0:wa.cell? ⟨bm,0,none⟩=some (.int .i64 (b:Int)):=by rw [aA hba];rfl
 have y1:wa.cell? ⟨bm,1,none⟩=some (.int .i64 (m:Int)):=by rw [aA hba];rfl
 obtain⟨k,hke⟩:∃ k,k=y.k:=⟨_,rfl⟩
 have y3:wa.cell? ⟨bm,3,none⟩=some (.int .i64 (k:Int)):=by rw [aA hba,hke];rfl
 have nb:¬ bY I.bm I.bw bm:=λh9=>(hB bm (.inl rfl)).2 (s3 bm h9).1
 have lba:=aC hba
 have At:=Lib.hid (zD b m y.k hk hk2)
 obtain⟨a,ha⟩:∃ a,a=b+y.k - 1:=⟨_,rfl⟩
 rw [<-ha] at At
 rw [<-hke] at At
 have Rd:=Lib.hid (λ(u:World) (hu:Chg noB wa u)=>yG I.bm I.bw wd.mem (a:Int) u (hwA.mem.chg hu (λh=>h) (λ_ _ h=>h)) hc)
 obtain⟨g,hg⟩:∃ g,g=gF wd a:=⟨_,rfl⟩
 rw [show(cZ wd.mem (a:Int)).2=g from hg.symm] at Rd
 have fin:∀ u,Chg (bY I.bm I.bw) wa u->cB u I.bm I.bw (cZ wd.mem (a:Int)).1->aU w u Mut I N (dJ wd a) bm rest T b m p tv (y.look wd) tv:=by
  intro u hu hm
  obtain⟨h8,h9⟩:=hwA.mems hu hm
  have h7:aU wa u Mut I N (dJ wd a) bm rest T b m p tv (y.look wd) tv:=aU.of_world hwA W1.way hB h8 h9
  refine W1.trans ?_
  rw [e0];exact h7
 have hr:eF wd b y=decide (g=1):=by unfold eF;rw [<-ha,<-hg]
 rw [<-ha,hr]
 have Fin:=Lib.hid fin;have Hba:=Lib.hid hba;have Nb:=Lib.hid nb;have S2:=Lib.hid s2;have Hwa:=Lib.hid hwa
 clear hw h hB hwb s1 s2 s3 hwA hwba W1 e0 hca hba fin hg hr hwa hnw hke ha nb hb hk hk2
 go_enter Try.func164,Try.ntmps164
 go_upto_region 2 with fail
 rw [<-Hwa.out]
 clear x0 x1 f6 o6
 go_region_held3 (λu=>u.cell? ⟨I.bW,0,none⟩=some (.pointer (some ⟨I.bm,0,none⟩))/\u.cell? ⟨bm,0,none⟩=some (.int .i64 (b:Int))/\u.cell? ⟨bm,1,none⟩=some (.int .i64 (m:Int))/\u.cell? ⟨bm,3,none⟩=some (.int .i64 (k:Int)))
  (first|exact⟨a0,y0,y1,y3⟩|exact⟨v0,u0,u1,u3⟩|exact⟨z0,zw,z1,z3⟩)
  (first|(go_at_call 166;refine(At.out _).mono ?_;rintro e w5 ⟨rfl,hb5⟩;have lY:Chg noB wa w5:=((Chg.refl _ wa).drew).trans (Chg.of_below hb5);have v0:=aY lY (λh=>h) a0;have WV:=(lY.block bm lba (λh=>h)).trans Hba.out;have u0:w5.cell? ⟨bm,0,none⟩=some (.int .i64 (b:Int)):=aY lY (λh=>h) y0;have u1:w5.cell? ⟨bm,1,none⟩=some (.int .i64 (m:Int)):=aY lY (λh=>h) y1;have u3:w5.cell? ⟨bm,3,none⟩=some (.int .i64 (k:Int)):=aY lY (λh=>h) y3)|(go_at_call 144;refine(Rd.out _ lY).mono ?_;rintro e w1 ⟨rfl,hm1,hc1⟩;have hc1':Chg (bY I.bm I.bw) wa w1:=(lY.mono (λ_ _ h=>h.elim)).trans hc1;have z0:=aY hc1' S2.out a0;have zw:=aY hc1' Nb.out y0;have z1:=aY hc1' Nb.out y1;have z3:=aY hc1' Nb.out y3))
 have F:=Lib.hid (Fin.out w1 hc1' hm1)
 clear hc1' hm1 hc1 lY hb5 z0 zw z1 z3 u0 u1 u3 v0 a0 y0 y1 y3
 go_wp2
 (go_ret)
 refine⟨?_,F.out⟩
 rw [Bool.beq_eq_decide_eq]
 exact congrArg (λx=>Ending.returned (Value.bool x)) (decide_eq_decide.2 (by omega))
set_option maxHeartbeats 2000000 in
theorem BG (hw:aM w Mut I N wd) (h:bV w bm rest T b m p y tv) (k:Nat) (hk:1<=k) (hk2:b+k<=1000000) :
  Calls Try.prog 167 #[.pointer (some ⟨bm,0,none⟩),.pointer (some ⟨I.bW,0,none⟩),.int .i64 (k:Int)] w λe w'=>e=.returned (.int .i64 (jW wd.traces b k))/\Below w.heap.size w w':=by
 have hb:=h.blk
 have y0:w.cell? ⟨bm,0,none⟩=some (.int .i64 (b:Int)):=by rw [aA hb];rfl
 have y1:w.cell? ⟨bm,1,none⟩=some (.int .i64 (m:Int)):=by rw [aA hb];rfl
 have At:=Lib.hid (zD b m k hk hk2)
 obtain⟨a,ha⟩:∃ a,a=b+k - 1:=⟨_,rfl⟩
 rw [<-ha] at At
 have hawf:(Lit.int .i64 (a:Int)).wf=true:=by simp [Lit.wf,IntKind.min,IntKind.max,IntKind.signed,IntKind.bits];omega
 have TR:∀ u:World,Below w.heap.size w u->Calls Try.prog 168 #[.pointer (some ⟨I.bW,0,none⟩),.int .i64 (a:Int)] u λe w'=>(∃ v,e=.returned v/\Lst u Mut v (wd.traces (a:Int)))/\u=w':=λu hu=>by
  refine(EU u Mut I N wd (a:Int) (lC hw hu) hawf).mono ?_
  rintro e w' ⟨h1,rfl⟩;exact⟨h1,rfl⟩
 unfold jW
 rw [<-ha]
 cases hx:wd.traces (a:Int) with
 | nil=>
  have TN:=Lib.hid (λ(u:World) (hu:Below w.heap.size w u)=>(by
   refine(TR u hu).mono ?_
   rintro e w' ⟨⟨v,rfl,va,vc,rfl,hn,_,_⟩,rfl⟩
   rw [hx] at hn
   exact⟨congrArg Ending.returned (by rw [hx];exact hn rfl),rfl⟩:Calls Try.prog 168 #[.pointer (some ⟨I.bW,0,none⟩),.int .i64 (a:Int)] u (λe w'=>e=.returned (.slice none 0 0)/\u=w')))
  clear TR hx hb hw h hawf ha hk hk2
  go_enter Try.func167,Try.ntmps167
  go_wp2_with (first|(go_at_call 166;refine(At.out _).mono ?_;rintro e w5 ⟨rfl,hb5⟩)|(go_at_call 168;refine(TN.out _ hb5).mono ?_;rintro e w6 ⟨rfl,rfl⟩))
  go_ret
  exact⟨rfl,hb5⟩
 | cons x l=>
  have TN:=Lib.hid (λ(u:World) (hu:Below w.heap.size w u)=>(by
   refine(TR u hu).mono ?_
   rintro e w' ⟨⟨v,rfl,va,vc,rfl,hn,hsl,_⟩,rfl⟩
   rw [hx] at hsl ⊢
   obtain⟨g,o,rfl,_,hc⟩:=hsl.2 0 (by simp)
   have:=hc 0 (by omega)
   have e9:o+(0*1+0)=o:=rfl
   rw [e9] at this
   exact⟨⟨g,o,_,vc,rfl,by simp,this⟩,rfl⟩:Calls Try.prog 168 #[.pointer (some ⟨I.bW,0,none⟩),.int .i64 (a:Int)] u (λe w'=>(∃ g o n c,e=.returned (.slice (some ⟨g,o,none⟩) n c)/\(0:Int)<(n:Nat)/\u.cell? ⟨g,o,none⟩=some (.int .i64 x))/\u=w')))
  clear TR hx hb hw h hawf ha hk hk2
  go_enter Try.func167,Try.ntmps167
  go_wp2_with (first|(go_at_call 166;refine(At.out _).mono ?_;rintro e w5 ⟨rfl,hb5⟩)|(go_at_call 168;refine(TN.out _ hb5).mono ?_;rintro e w6 ⟨⟨g,o,n,c,rfl,hn,hc⟩,rfl⟩))
  go_ret
  exact⟨rfl,hb5⟩
end Go.Proofs.Ytifhldnmcdbpfaa
