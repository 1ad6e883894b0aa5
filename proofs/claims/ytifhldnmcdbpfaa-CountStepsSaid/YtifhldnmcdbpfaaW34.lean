/- Layer 11: one that counts: it climbs. -/
import Derived.Test.YtifhldnmcdbpfaaW33
set_option maxRecDepth 100000
set_option linter.unusedVariables false
set_option linter.unusedSimpArgs false
set_option linter.unnecessarySimpa false
namespace Go.Proofs.Ytifhldnmcdbpfaa
open List renaming getElem_toArray → zq1, getElem_cons_zero → zq2, getElem_cons_succ → zq3, setIfInBounds_toArray → zq4, set_cons_zero → zq5, set_cons_succ → zq6
open Go.RowKit
def jE (o:List Nat):Array Value:=(o.map kS).toArray
def lM (bO n:Nat):Value:=.slice (some ⟨bO,0,none⟩) n n
theorem rY {o:List Nat} {p:Nat} (hp:p<o.length):(jE o)[p]?=some (.int .u64 ((o.getD p 0:Nat):Int)):=by
 unfold jE
 rw [List.getElem?_toArray,List.getElem?_map,List.getElem?_eq_getElem hp,List.getD_eq_getElem?_getD,List.getElem?_eq_getElem hp];rfl
theorem GY (o:List Nat) (p x:Nat):(jE o).setIfInBounds p (.int .u64 (x:Int))=jE (o.set p x):=by
 unfold jE
 rw [zq4,List.map_set];rfl
def xM (w w':World) (b bP bO p pc:Nat) (o:List Nat) (lv rv wv:Value) (e:Ending):Prop:=
 e=.returned (.bool true)/\Chg (λk=>k=b∨k=bO) w w'/\w'.heap[b]?=some (.cells (bM bP p 0 pc lv rv wv) 205 (0,0))/\w'.heap[bO]?=some (.cells (jE (o.set p (o.getD p 0+1))) 40 (0,0))
set_option maxHeartbeats 8000000 in
theorem IU (n m p b bP bO v pc:Nat) (o:List Nat) (lv rv wv:Value) (hn:n<=16) (hp:p<n) (ho:o.length=n) (hop:o.getD p 0<1000000) (w:World) (hb:w.heap[b]?=some (.cells (bM bP p v pc lv rv wv) 205 (0,0))) (hP:w.heap[bP]?=some (.cells (ctL n m (aJ n) (lM bO n)) 80 (0,0))) (hO:w.heap[bO]?=some (.cells (jE o) 40 (0,0))) :
  Calls Try.prog 152 #[.pointer (some ⟨b,0,none⟩),.int .i64 0] w λe w'=>xM w w' b bP bO p pc o lv rv wv e:=by
 have nT:∀ {a c:Nat} {cs cs':Array Value} {T T':TypeId} {fz fz':Nat×Nat},w.heap[a]?=some (.cells cs T fz)->w.heap[c]?=some (.cells cs' T' fz')->T≠T'->a≠c:=λh1 h2 h3 e=>by
  subst e
  rw [h1] at h2
  exact h3 (Obj.cells.inj (Option.some.inj h2)).2.1
 have n1:bP≠b:=nT hP hb (by decide)
 have n2:bO≠b:=nT hO hb (by decide)
 have n3:bP≠bO:=nT hP hO (by decide)
 obtain⟨w1,hw1⟩:∃ w1,w1=w.setCell ⟨b,2,none⟩ (.int .i64 0):=⟨_,rfl⟩
 have hb1:w1.heap[b]?=some (.cells (bM bP p 0 pc lv rv wv) 205 (0,0)):=by rw [hw1,aH hb];rfl
 have hc1:Chg (λk=>k=b) w w1:=by rw [hw1];exact(Chg.refl (λk=>k=b) w).setCell (p:=⟨b,2,none⟩) (.inl rfl) _
 have hP1:=(hc1.block bP (aC hP) n1).trans hP
 have hO1:=(hc1.block bO (aC hO) n2).trans hO
 obtain⟨u,hu⟩:∃ u,u=o.getD p 0:=⟨_,rfl⟩
 rw [<-hu] at hop
 have x2:w.cell? ⟨b,2,none⟩=some (.int .i64 (v:Int)):=by rw [aA hb];rfl
 have xf:=aB hb 2
 have xl:=aC hb
 have c0:w1.cell? ⟨b,0,none⟩=some (.pointer (some ⟨bP,0,none⟩)):=by rw [aA hb1];rfl
 have c1:w1.cell? ⟨b,1,none⟩=some (.int .i64 (p:Int)):=by rw [aA hb1];rfl
 have c4:w1.cell? ⟨bP,4,none⟩=some (.slice (some ⟨bO,0,none⟩) n n):=by rw [aA hP1];rfl
 have c5:w1.cell? ⟨bO,p,none⟩=some (.int .u64 (u:Int)):=by rw [aA hO1,hu];exact rY (by omega)
 have cf:=aB hO1 p
 have cl:=aC hO1
 have wu:IntKind.u64.wrap ((u:Int)+1)=(u:Int)+1:=by rw [IntKind.wrap_u64];omega
 have lp:(p:Int)<(n:Int):=by omega
 have TZ:(0:Int)<=(p:Int):=by omega
 obtain⟨w2,hw2⟩:∃ w2,w2=(w1.setCell ⟨bO,p,none⟩ (.int .u64 ((u:Int)+1))).drew:=⟨_,rfl⟩
 have hc2:Chg (λk=>k=bO) w1 w2:=by rw [hw2];exact((Chg.refl (λk=>k=bO) w1).setCell (p:=⟨bO,p,none⟩) (.inl rfl) _).drew
 have F:=Lib.hid (show xM w w2 b bP bO p pc o lv rv wv (.returned (.bool true)) from by
  refine⟨rfl,(hc1.mono (λ_ _ e=>.inl e)).trans (hc2.mono (λ_ _ e=>.inr e)),(hc2.block b (aC hb1) (λe=>n2 e.symm)).trans hb1,?_⟩
  rw [hw2]
  show(w1.setCell _ _).heap[bO]?=_
  rw [aH hO1,<-hu,<-GY o p (u+1)];rfl)
 have q0:((w1.setCell ⟨bO,p,none⟩ (.int .u64 ((u:Int)+1))).drew).cell? ⟨b,0,none⟩=some (.pointer (some ⟨bP,0,none⟩)):=by rw [<-hw2];exact aY hc2 (λe=>n2 e.symm) c0
 have q1:((w1.setCell ⟨bO,p,none⟩ (.int .u64 ((u:Int)+1))).drew).cell? ⟨b,1,none⟩=some (.int .i64 (p:Int)):=by rw [<-hw2];exact aY hc2 (λe=>n2 e.symm) c1
 have q4:((w1.setCell ⟨bO,p,none⟩ (.int .u64 ((u:Int)+1))).drew).cell? ⟨bP,4,none⟩=some (.slice (some ⟨bO,0,none⟩) n n):=by rw [<-hw2];exact aY hc2 n3 c4
 have Hw1:=Lib.hid hw1;have Hw2:=Lib.hid hw2
 clear hb hP hO nT n1 n2 n3 hb1 hc1 hP1 hO1 hu hc2 hw1 hw2 hp ho hn
 go_enter Try.func152,Try.ntmps152
 go_upto_region 2 with fail
 rw [<-Hw1.out]
 clear x2 xf xl
 go_upto_region 3 with fail
 refine wp_region_held_drew (S:=(λx=>x.cell? ⟨b,0,none⟩=some (.pointer (some ⟨bP,0,none⟩))/\x.cell? ⟨b,1,none⟩=some (.int .i64 (p:Int))/\x.cell? ⟨bP,4,none⟩=some (.slice (some ⟨bO,0,none⟩) n n))) (by kernel_rfl) ?_ (λhHeld=>?_)
 ·(try dsimp only)
  (first|exact⟨c0,c1,c4⟩|exact⟨q0,q1,q4⟩)
 refine wpAnyH_take (i:=0) (v:=?WY) rfl (by kernel_rfl) (by kernel_rfl) (by kernel_rfl) (λ_ _ _ h=>h) (Or.inl ⟨by rfl,?TC⟩) (by assumption) ?VY
 (case TC=>(intro w hSw;(try dsimp only at hSw);go_simp;try with_reducible rfl))
 (try simp only [Act.put,zs])
 refine wpAnyH_take (i:=1) (v:=?kI) rfl (by kernel_rfl) (by kernel_rfl) (by kernel_rfl) (λ_ _ _ h=>h) (Or.inl ⟨by rfl,?TY⟩) (by assumption) ?WR
 (case TY=>(intro w hSw;(try dsimp only at hSw);go_simp;try with_reducible rfl))
 (try simp only [Act.put,zs])
 refine wpAnyH_take (i:=2) (v:=?PM) rfl (by kernel_rfl) (by kernel_rfl) (by kernel_rfl) (λ_ _ _ h=>h) (Or.inl ⟨by rfl,?TJ⟩) (by assumption) ?WT
 (case TJ=>(intro w hSw;(try dsimp only at hSw);go_simp;try with_reducible rfl))
 (try simp only [Act.put,zs])
 refine wpAnyH_take (i:=3) (v:=?VU) rfl (by kernel_rfl) (by kernel_rfl) (by kernel_rfl) (λ_ _ _ h=>h) (Or.inl ⟨by rfl,?UD⟩) (by assumption) ?VK
 (case UD=>(intro w hSw;(try dsimp only at hSw);go_simp;try with_reducible rfl))
 (try simp only [Act.put,zs])
 refine wpAnyH_take (i:=4) (v:=?VS) rfl (by kernel_rfl) (by kernel_rfl) (by kernel_rfl) (λ_ _ _ h=>h) (Or.inl ⟨by rfl,?UF⟩) (by assumption) ?WQ
 (case UF=>(intro w hSw;(try dsimp only at hSw);go_simp;try with_reducible rfl))
 (try simp only [Act.put,zs])
 refine wpAnyH_take (i:=5) (v:=?WL) rfl (by kernel_rfl) (by kernel_rfl) (by kernel_rfl) (λ_ _ _ h=>h) (Or.inl ⟨by rfl,?RU⟩) (by assumption) ?WW
 (case RU=>(intro w hSw;(try dsimp only at hSw);go_simp;try with_reducible rfl))
 (try simp only [Act.put,zs])
 refine wpAnyH_take (i:=6) (v:=?VW) rfl (by kernel_rfl) (by kernel_rfl) (by kernel_rfl) (λ_ _ _ h=>h) (Or.inl ⟨by rfl,?TB⟩) (by assumption) ?VV
 (case TB=>(intro w hSw;(try dsimp only at hSw);go_simp;try with_reducible rfl))
 (try simp only [Act.put,zs])
 refine wpAnyH_take (i:=7) (v:=?WG) rfl (by kernel_rfl) (by kernel_rfl) (by kernel_rfl) (λ_ _ _ h=>h) (Or.inl ⟨by rfl,?SY⟩) (by assumption) ?VT
 (case SY=>(intro w hSw;(try dsimp only at hSw);go_simp;try with_reducible rfl))
 (try simp only [Act.put,zs])
 refine wpAnyH_take (i:=8) (v:=?WI) rfl (by kernel_rfl) (by kernel_rfl) (by kernel_rfl) (λ_ _ _ h=>h) (Or.inl ⟨by rfl,?SF⟩) (by assumption) ?WN
 (case SF=>(intro w hSw;(try dsimp only at hSw);go_simp;try with_reducible rfl))
 (try simp only [Act.put,zs])
 refine wpAnyH_take (i:=9) (v:=?TG) rfl (by kernel_rfl) (by kernel_rfl) (by kernel_rfl) (λ_ _ _ h=>h) (Or.inl ⟨by rfl,?OC⟩) (by assumption) ?RY
 (case OC=>(intro w hSw;(try dsimp only at hSw);go_simp;try with_reducible rfl))
 (try simp only [Act.put,zs])
 refine wpAnyH_take (i:=10) (v:=?UE) rfl (by kernel_rfl) (by kernel_rfl) (by kernel_rfl) (λ_ _ _ h=>h) (Or.inl ⟨by rfl,?OM⟩) (by assumption) ?TI
 (case OM=>(intro w hSw;(try dsimp only at hSw);go_simp;try with_reducible rfl))
 (try simp only [Act.put,zs])
 refine wpAnyH_ready (rs:=[11]) (by kernel_rfl) (by simp) ?_
 refine AllReadyH.cons rfl (λK hK=>?_) AllReadyH.nil
 ((rw [if_pos (by kernel_rfl)]);(try simp only [zq1,zq2,zq3]);first|go_big_move|go_big_op)
 refine hK.out _ _ ?_ (λhHeld=>?_)
 ·(try dsimp only)
  (first|exact⟨c0,c1,c4⟩|exact⟨q0,q1,q4⟩)
 clear hK K
 (try simp only [Act.put,zs])
 refine wpAnyH_ready (rs:=[12]) (by kernel_rfl) (by simp) ?_
 refine AllReadyH.cons rfl (λK hK=>?_) AllReadyH.nil
 ((rw [if_pos (by kernel_rfl)]);(try simp only [zq1,zq2,zq3]);first|go_big_move|go_big_op)
 refine hK.out _ _ ?_ (λhHeld=>?_)
 ·(try dsimp only)
  (first|exact⟨c0,c1,c4⟩|exact⟨q0,q1,q4⟩)
 clear hK K
 (try simp only [Act.put,zs])
 refine wpAnyH_take (i:=13) (v:=?WA) rfl (by kernel_rfl) (by kernel_rfl) (by kernel_rfl) (λ_ _ _ h=>h) (Or.inl ⟨by rfl,?TQ⟩) (by assumption) ?WO
 (case TQ=>(intro w hSw;(try dsimp only at hSw);go_simp;try with_reducible rfl))
 (try simp only [Act.put,zs])
 refine wpAnyH_ready (rs:=[14]) (by kernel_rfl) (by simp) ?_
 refine AllReadyH.cons rfl (λK hK=>?_) AllReadyH.nil
 ((rw [if_pos (by kernel_rfl)]);(try simp only [zq1,zq2,zq3]);first|go_big_move|go_big_op)
 refine hK.out _ _ ?_ (λhHeld=>?_)
 ·(try dsimp only)
  (first|exact⟨c0,c1,c4⟩|exact⟨q0,q1,q4⟩)
 clear hK K
 (try simp only [Act.put,zs])
 refine wpAnyH_ready (rs:=[15]) (by kernel_rfl) (by simp) ?_
 refine AllReadyH.cons rfl (λK hK=>?_) AllReadyH.nil
 ((rw [if_pos (by kernel_rfl)]);(try simp only [zq1,zq2,zq3]);first|go_big_move|go_big_op)
 refine hK.out _ _ ?_ (λhHeld=>?_)
 ·(try dsimp only)
  (first|exact⟨c0,c1,c4⟩|exact⟨q0,q1,q4⟩)
 clear hK K
 (try simp only [Act.put,zs])
 refine wpAnyH_done (by kernel_rfl) ?_ _
 rw [<-Hw2.out]
 go_wp2
 go_ret
 exact F.out
def oK (w w':World) (Mut:Nat->Prop) (n m p b bP:Nat) (x:AdD) (e:Ending):Prop:=
 e=.returned (.bool false)/\Chg (λk=>k=b) w w'/\∃ bl br BL BR B,AdB w' Mut n m p b bP x (.pointer (some ⟨bl,0,none⟩)) (.pointer (some ⟨br,0,none⟩)) B/\dL w' Mut n m p bl x.left BL/\dL w' Mut n m p br x.right BR/\(∀ k,(BL k∨BR k∨B k)->w.heap.size<=k/\k≠b)/\(∀ k,BL k->¬ BR k/\¬ B k)/\∀ k,BR k->¬ B k
theorem iU (m:Nat) (x:AdD):(x.pass m).left=x.left/\(x.pass m).right=x.right/\(x.pass m).v=x.v:=by
 unfold AdD.pass AdD.pass2 AdD.pass1 AdD.sum
 split<;>split<;>exact⟨rfl,rfl,rfl⟩
set_option maxHeartbeats 8000000 in
theorem yV (n m p b bP v pc:Nat) (x:AdD) (TV UG wv ov:Value) (hn:n<=16) (hm:m<=8) (hv1:1<=v) (hv:v<=15) (w:World) (Mut:Nat->Prop) (I:dG) (N:Nat) (wd:WD) (hw:aM w Mut I N wd) (hbM:Mut b/\¬ aW I b)
  (hb:w.heap[b]?=some (.cells (bM bP p x.v pc TV UG wv) 205 (0,0))) (hP:w.heap[bP]?=some (.cells (ctL n m (aJ n) ov) 80 (0,0))) :
  Calls Try.prog 152 #[.pointer (some ⟨b,0,none⟩),.int .i64 (v:Int)] w λe w'=>oK w w' Mut n m p b bP (x.climb n m v) e:=by
 have nT:∀ {a c:Nat} {cs cs':Array Value} {T T':TypeId} {fz fz':Nat×Nat},w.heap[a]?=some (.cells cs T fz)->w.heap[c]?=some (.cells cs' T' fz')->T≠T'->a≠c:=λh1 h2 h3 e=>by
  subst e
  rw [h1] at h2
  exact h3 (Obj.cells.inj (Option.some.inj h2)).2.1
 have n1:bP≠b:=nT hP hb (by decide)
 obtain⟨w1,hw1⟩:∃ w1,w1=w.setCell ⟨b,2,none⟩ (.int .i64 (v:Int)):=⟨_,rfl⟩
 have hb1:w1.heap[b]?=some (.cells (bM bP p v pc TV UG wv) 205 (0,0)):=by rw [hw1,aH hb];rfl
 have hc1:Chg (λk=>k=b) w w1:=by rw [hw1];exact(Chg.refl (λk=>k=b) w).setCell (p:=⟨b,2,none⟩) (.inl rfl) _
 have hP1:=(hc1.block bP (aC hP) n1).trans hP
 have hz1:w1.heap.size=w.heap.size:=by rw [hw1];simp [World.setCell]
 have hst:x.climb n m v=({ x with v:=v,left:=dR n m (2*v),right:=dR n m (2*v+1),pc:=1 }:AdD).pass m:=if_neg (by omega)
 obtain⟨v2,hv2⟩:∃ v2,v2=2*v:=⟨_,rfl⟩
 obtain⟨v3,hv3⟩:∃ v3,v3=2*v+1:=⟨_,rfl⟩
 have e2:IntKind.i64.wrap (2*(v:Int))=(v2:Int):=by rw [IntKind.wrap_i64];omega
 have e3:IntKind.i64.wrap ((v2:Int)+1)=(v3:Int):=by rw [IntKind.wrap_i64];omega
 rw [hst,<-hv3,<-hv2]
 obtain⟨X,hX⟩:∃ X,X=({ x with v:=v,left:=dR n m v2,right:=dR n m v3,pc:=1 }:AdD):=⟨_,rfl⟩
 have x2:w.cell? ⟨b,2,none⟩=some (.int .i64 (x.v:Int)):=by rw [aA hb];rfl
 have xf:=aB hb 2
 have xl:=aC hb
 have l1:¬ (v:Int)<1:=by omega
 have c0:w1.cell? ⟨b,0,none⟩=some (.pointer (some ⟨bP,0,none⟩)):=by rw [aA hb1];rfl
 have c1:w1.cell? ⟨b,1,none⟩=some (.int .i64 (p:Int)):=by rw [aA hb1];rfl
 have LA:=Lib.hid (λ(u:World) (h:Below w1.heap.size w1 u)=>vN bP n m v2 p ov hn hm (by omega) (by omega) u Mut ((h.block bP (aC hP1)).trans hP1))
 have LB:=Lib.hid (λ(u:World) (h:Below w1.heap.size w1 u)=>vN bP n m v3 p ov hn hm (by omega) (by omega) u Mut ((h.block bP (aC hP1)).trans hP1))
 have PS:=Lib.hid (λ(u:World) (bl br:Nat) (BL BR:Nat->Prop) (hc:Chg (λk=>k=b) w u) (h1:u.heap[b]?=some (.cells (bM bP p v 1 (.pointer (some ⟨bl,0,none⟩)) (.pointer (some ⟨br,0,none⟩)) wv) 205 (0,0))) (h2:dL u Mut n m p bl X.left BL) (h3:dL u Mut n m p br X.right BR)=>BK n m p b bP bl br X wv ov (by rw [hX];exact .inl rfl) hn hm (by rw [hX];exact hv1) (by rw [hX];show v<=32;omega) u Mut BL BR I N wd (fH hw hc (λk e=>by rw [show k=b from e];exact hbM)) hbM (by rw [hX];exact h1) ((hc.block bP (aC hP) n1).trans hP) h2 h3 (λ_=>by
  rw [hX]
  show 0+0<2^m
  exact Nat.two_pow_pos m))
 have HX:=Lib.hid (show X.left=dR n m v2/\X.right=dR n m v3 from by rw [hX];exact⟨rfl,rfl⟩)
 have Hw1:=Lib.hid hw1;have Hb1:=Lib.hid hb1;have Hc1:=Lib.hid hc1;have Hz1:=Lib.hid hz1
 rw [<-hX]
 have HbM:=Lib.hid hbM
 clear hw hbM hb hP nT n1 hw1 hb1 hc1 hP1 hz1 hst hv2 hv3 hX hn hm hv1 hv
 go_enter Try.func152,Try.ntmps152
 go_upto_region 2 with fail
 rw [<-Hw1.out]
 clear x2 xf xl
 go_upto_region 5 with fail
 clear l1
 go_region_held3 (λu=>u.cell? ⟨b,0,none⟩=some (.pointer (some ⟨bP,0,none⟩))/\u.cell? ⟨b,1,none⟩=some (.int .i64 (p:Int)))
  (first|exact⟨c0,c1⟩|exact⟨y0,y1⟩|exact⟨z0,z1⟩|exact⟨k0,k1⟩|exact⟨j0,j1⟩)
  (first|(go_at_call 123;(with_reducible refine(LA.out _ ?_).mono ?_);(exact(Gr.refl w1).drew);rintro e w2 ⟨bl,BL,rfl,hb2,hl2,QI⟩;have hb2':Below w1.heap.size w1 w2:=Gr.trans (Gr.refl w1).drew hb2;have y0:=(hb2'.cell (World.block_lt_of_cell? _ _ c0)).trans c0;have y1:=(hb2'.cell (World.block_lt_of_cell? _ _ c1)).trans c1)|(go_at_call 123;(with_reducible refine(LB.out _ ?_).mono ?_);(exact hb2');rintro e w3 ⟨br,BR,rfl,hb3,hr3,JH⟩;have zP:Below w1.heap.size w1 w3:=Gr.trans hb2' hb3;have z0:=(hb3.cell (World.block_lt_of_cell? _ _ y0)).trans y0;have z1:=(hb3.cell (World.block_lt_of_cell? _ _ y1)).trans y1;have pU:=(zP.block b (aC Hb1.out)).trans Hb1.out;have q4:w3.cell? ⟨b,4,none⟩=some TV:=(by rw [aA pU];rfl);have q5:w3.cell? ⟨b,5,none⟩=some UG:=(by rw [aA pU];rfl);have WC:=aB pU 4;have WH:=aB pU 5;have ql:=aC pU;have qO:=aH pU 4 (.pointer (some ⟨bl,0,none⟩));have ML:=aH qO 5 (.pointer (some ⟨br,0,none⟩));have k0:=(aA qO 0).trans (show _=some (Value.pointer (some ⟨bP,0,none⟩)) from rfl);have k1:=(aA qO 1).trans (show _=some (Value.int .i64 (p:Int)) from rfl);have j0:=(aA ML 0).trans (show _=some (Value.pointer (some ⟨bP,0,none⟩)) from rfl);have j1:=(aA ML 1).trans (show _=some (Value.int .i64 (p:Int)) from rfl)))
 obtain⟨w5,vR⟩:∃ w5,w5=(w3.setCell ⟨b,4,none⟩ (.pointer (some ⟨bl,0,none⟩))).setCell ⟨b,5,none⟩ (.pointer (some ⟨br,0,none⟩)):=⟨_,rfl⟩
 have yJ:w5.heap[b]?=some (.cells (bM bP p v pc (.pointer (some ⟨bl,0,none⟩)) (.pointer (some ⟨br,0,none⟩)) wv) 205 (0,0)):=by rw [vR,ML];rfl
 have lY:Chg (λk=>k=b) w3 w5:=by rw [vR];exact((Chg.refl (λk=>k=b) w3).setCell (p:=⟨b,4,none⟩) (.inl rfl) _).setCell (p:=⟨b,5,none⟩) (.inl rfl) _
 obtain⟨w6,iR⟩:∃ w6,w6=w5.setCell ⟨b,3,none⟩ (.int .i64 1):=⟨_,rfl⟩
 have QL:w6.heap[b]?=some (.cells (bM bP p v 1 (.pointer (some ⟨bl,0,none⟩)) (.pointer (some ⟨br,0,none⟩)) wv) 205 (0,0)):=by rw [iR,aH yJ];rfl
 have hc6:Chg (λk=>k=b) w3 w6:=lY.trans (by rw [iR];exact(Chg.refl (λk=>k=b) w5).setCell (p:=⟨b,3,none⟩) (.inl rfl) _)
 have hall:Chg (λk=>k=b) w w6:=(Hc1.out.trans (Chg.of_below (S:=λk=>k=b) zP)).trans hc6
 have hbw:b<w1.heap.size:=aC Hb1.out
 have hgeL:∀ k,BL k->w1.heap.size<=k:=λk hk=>QI k hk
 have hgeR:∀ k,BR k->w2.heap.size<=k:=λk hk=>JH k hk
 have s12:=hb2'.size
 have JZ:dL w6 Mut n m p bl X.left BL:=by
  rw [HX.out.1]
  refine(hl2.keep (Q:=noB) (Chg.of_below hb3) (λ_ h=>h.elim) (λ_ _ h=>h) (aV.refl _ _)).keep hc6 (λk e=>by rw [show k=b from e];exact HbM.out.1) (λk hk e=>?_) (aV.refl _ _)
  have:=hgeL k hk;have e:k=b:=e;omega
 have qN:dL w6 Mut n m p br X.right BR:=by
  rw [HX.out.2]
  refine hr3.keep hc6 (λk e=>by rw [show k=b from e];exact HbM.out.1) (λk hk e=>?_) (aV.refl _ _)
  have:=hgeR k hk;have e:k=b:=e;omega
 have PS6:=Lib.hid (PS.out w6 bl br BL BR hall QL JZ qN)
 have hsep:∀ k,BL k->¬ BR k:=λk h1 h2=>by have:=hgeR k h2;have:=hl2.lt k h1;omega
 have G:=Lib.hid (λ(w':World) (e:Ending) (h:jJ w6 w' Mut n m p b bP (X.pass m) (.pointer (some ⟨bl,0,none⟩)) (.pointer (some ⟨br,0,none⟩)) e)=>(show oK w w' Mut n m p b bP (X.pass m) (.returned (.bool false)) from by
  obtain⟨_,zC,B,hA,hge⟩:=h
  obtain⟨k1,k2,_⟩:=iU m X
  have s6:=hall.size
  have s36:=hc6.size
  refine⟨rfl,hall.trans zC,bl,br,BL,BR,B,hA,?_,?_,λk hk=>?_,λk hk=>⟨hsep k hk,λh9=>?_⟩,λk hk h9=>?_⟩
  ·rw [k1];exact JZ.keep zC (λk e=>by rw [show k=b from e];exact HbM.out.1) (λk hk e=>by have:=hgeL k hk;have e:k=b:=e;omega) (aV.refl _ _)
  ·rw [k2];exact qN.keep zC (λk e=>by rw [show k=b from e];exact HbM.out.1) (λk hk e=>by have:=hgeR k hk;have e:k=b:=e;omega) (aV.refl _ _)
  ·have hz:=Hz1.out
   rcases hk with hk|hk|hk
   ·have:=hgeL k hk;exact⟨by omega,by omega⟩
   ·have:=hgeR k hk;exact⟨by omega,by omega⟩
   ·have:=hge k hk;have:=hb3.size;exact⟨by omega,by omega⟩
  ·have:=hge k h9;have:=JZ.lt k hk;omega
  ·have:=hge k h9;have:=qN.lt k hk;omega))
 have Hw5:=Lib.hid vR;have Hw6:=Lib.hid iR
 have t3:w5.cell? ⟨b,3,none⟩=some (.int .i64 (pc:Int)):=by rw [aA yJ];rfl
 have tf:=aB yJ 3
 have tl:=aC yJ
 clear hb2 hb2' hl2 QI hb3 zP hr3 JH y0 y1 z0 z1 pU q4 q5 WC WH ql qO ML k0 k1 j0 j1 vR yJ lY iR QL hc6 hall hbw hgeL hgeR s12 JZ qN hsep c0 c1 PS LA LB
 rw [<-Hw5.out]
 go_upto_region 7 with fail
 rw [<-Hw6.out]
 clear t3 tf tl
 go_wp2_with fail
 refine PS6.out.mono ?_
 intro e w9 h9
 have F:=Lib.hid (G.out w9 e h9)
 obtain⟨rfl,_⟩:=h9
 go_wp2
 go_ret
 exact F.out
end Go.Proofs.Ytifhldnmcdbpfaa
