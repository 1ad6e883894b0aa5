/- A reference's play: its world is made: region 7 of roundelayplain.Log. -/
import Derived.Test.YtfkokppncipgnaaGreatW25
set_option maxRecDepth 100000
set_option linter.unusedVariables false
set_option linter.unusedSimpArgs false
set_option linter.unnecessarySimpa false
namespace Go.Proofs.YtfkokppncipgnaaGreat
open List renaming getElem_toArray → zq1, getElem_cons_zero → zq2, getElem_cons_succ → zq3, setIfInBounds_toArray → zq4, set_cons_zero → zq5, set_cons_succ → zq6
open Go.RowKit
set_option maxHeartbeats 4000000 in
theorem Sd {w:World} {nt sz bS g gc:Nat} {x2 x3 x4 x5 x6 x7 x8 x9 wC yE yI xM IB IK IA x19 OC MR ZK ME x24 x25 OY x27 x28 x29 JR x31 x32 GU x34 JO GA DX x38 x39 DY CP CK DV DL CF KN KT KA KG KI KS KW KL JZ FO JY KJ JM IC IU FQ JA GL FN GN IW FW GX JL GZ JN FX JQ JI IV JE GM JD GK JW IQ FP IY JV JP IX IR GV IZ x90 x91 FZ x93 JG x95 x96 JS x98 x99 pR x101 x102 nJ x104 oN mY lU oD lX oP nI x112 x113 x114 x115 mD qP qE uN uV uA tH sK qY rD tZ sI qM tO qQ qK qJ uI uL tN tT rJ pK nZ oM oW pG mV rG uM rC qO tK sG x150 x151 x152 x153 rT qU oU x157 x158 x159 x160 sM qX qR pX rF uG x167 x168 sJ uF tV qL tF uO tY uS qH lV nX mU lY mM nE oO mJ mQ oF qB pV qD sZ sU tC qV rO uH rQ qG qW oV nK pJ nY lZ pI nN oC nU oG mZ lT lS oL mI nD oI pU pQ pY rH uE rE sW uJ rW rR sS sD sV rX rV qN rM rA tX uQ uK qI qZ uC uD sN tQ uT rY uW qC tL uU uR tJ uB uP sH mF pM mH oJ mK pF mP nA oK mE mO oH nH nG mR pE mG nV rZ sO rP sF rU:Value} {K:Act->World->Prop} {Q0:Exit->Act->World->Prop} {cd:Code} (hcd:cd=logReg 7) (hQp:∀ c d v (a:Act) {w},Q0 (.panic c) (a.put d v) w->Q0 (.panic c) a w) (hmkM:∀ u:World,(Instr.makeSlice 91 (.int .i64 (nt:Int)) (.int .i64 (nt:Int))).run Tryz.prog u=.ok (.slice (some ⟨u.heap.size,0,none⟩) nt nt) (u.alloc (.cells (List.replicate nt (Value.slice none 0 0)).toArray 24))) (hmkT:∀ u:World,(Instr.makeSlice 91 (.int .i64 (sz:Int)) (.int .i64 (sz:Int))).run Tryz.prog u=.ok (.slice (some ⟨u.heap.size,0,none⟩) sz sz) (u.alloc (.cells (List.replicate sz (Value.slice none 0 0)).toArray 24))) (hWD:∀ u:World,Below w.heap.size w u->Calls Tryz.prog 39 #[.int .i64 (nt:Int),.slice (some ⟨bS,0,none⟩) 1 1,.slice (some ⟨g,0,none⟩) 1 gc,.int .i64 (sz:Int)] u λe w'=>∃ b,e=.returned (.slice (some ⟨b,0,none⟩) sz sz)/\w'.heap[b]?=some (.cells (madeCells #[.int .u64 0] sz) 46 (0,0))/\Below u.heap.size u w') (hOF:∀ u:World,Below w.heap.size w u->∀ b,u.heap[b]?=some (.cells (madeCells #[.int .u64 0] sz) 46 (0,0))->Calls Tryz.prog 38 #[.slice (some ⟨b,0,none⟩) sz sz] u λe w'=>∃ wa wc,e=.returned (.agg #[.slice wa sz wc,.int .i64 0,.int .i64 0,.int .i64 0,.int .i64 0,.int .i64 0])/\w'.ownsRow w.heap.size 46 1 (.slice wa sz wc) sz ((List.replicate sz 0).map bI)/\Below u.heap.size u w')
  (hK:∀(y46 y47 y48 y49 y50 y51 y52 y53 y54 y55 y56 y57:Value) (bW:Nat) (w':World),(∃ bM bT wa wc,Ot w w' nt sz bM bT bW wa wc)->K ⟨#[.int .i64 (nt:Int),.slice (some ⟨bS,0,none⟩) 1 1,x2,x3,x4,x5,x6,x7,x8,x9,wC,yE,.slice (some ⟨g,0,none⟩) 1 gc,.int .i64 (sz:Int),yI,.pointer (some ⟨bW,0,none⟩),IB,IK,IA,x19,OC,MR,ZK,ME,x24,x25,OY,x27,x28,x29,JR,x31,x32,GU,x34,JO,GA,DX,x38,x39,DY,CP,CK,DV,DL,CF,y46,y47,y48,y49,y50,y51,y52,y53,y54,y55,y56,y57,JM,IC,IU,FQ,JA,GL,FN,GN,IW,FW,GX,JL,GZ,JN,FX,JQ,JI,IV,JE,GM,JD,GK,JW,IQ,FP,IY,JV,JP,IX,IR,GV,IZ,x90,x91,FZ,x93,JG,x95,x96,JS,x98,x99,pR,x101,x102,nJ,x104,oN,mY,lU,oD,lX,oP,nI,x112,x113,x114,x115,mD,qP,qE,uN,uV,uA,tH,sK,qY,rD,tZ,sI,qM,tO,qQ,qK,qJ,uI,uL,tN,tT,rJ,pK,nZ,oM,oW,pG,mV,rG,uM,rC,qO,tK,sG,x150,x151,x152,x153,rT,qU,oU,x157,x158,x159,x160,sM,qX,qR,pX,rF,uG,x167,x168,sJ,uF,tV,qL,tF,uO,tY,uS,qH,lV,nX,mU,lY,mM,nE,oO,mJ,mQ,oF,qB,pV,qD,sZ,sU,tC,qV,rO,uH,rQ,qG,qW,oV,nK,pJ,nY,lZ,pI,nN,oC,nU,oG,mZ,lT,lS,oL,mI,nD,oI,pU,pQ,pY,rH,uE,rE,sW,uJ,rW,rR,sS,sD,sV,rX,rV,qN,rM,rA,tX,uQ,uK,qI,qZ,uC,uD,sN,tQ,uT,rY,uW,qC,tL,uU,uR,tJ,uB,uP,sH,mF,pM,mH,oJ,mK,pF,mP,nA,oK,mE,mO,oH,nH,nG,mR,pE,mG,nV,rZ,sO,rP,sF,rU],[]⟩ w'):Code.wp Tryz.prog cd (Exit.then K Q0) ⟨#[.int .i64 (nt:Int),.slice (some ⟨bS,0,none⟩) 1 1,x2,x3,x4,x5,x6,x7,x8,x9,wC,yE,.slice (some ⟨g,0,none⟩) 1 gc,.int .i64 (sz:Int),yI,xM,IB,IK,IA,x19,OC,MR,ZK,ME,x24,x25,OY,x27,x28,x29,JR,x31,x32,GU,x34,JO,GA,DX,x38,x39,DY,CP,CK,DV,DL,CF,KN,KT,KA,KG,KI,KS,KW,KL,JZ,FO,JY,KJ,JM,IC,IU,FQ,JA,GL,FN,GN,IW,FW,GX,JL,GZ,JN,FX,JQ,JI,IV,JE,GM,JD,GK,JW,IQ,FP,IY,JV,JP,IX,IR,GV,IZ,x90,x91,FZ,x93,JG,x95,x96,JS,x98,x99,pR,x101,x102,nJ,x104,oN,mY,lU,oD,lX,oP,nI,x112,x113,x114,x115,mD,qP,qE,uN,uV,uA,tH,sK,qY,rD,tZ,sI,qM,tO,qQ,qK,qJ,uI,uL,tN,tT,rJ,pK,nZ,oM,oW,pG,mV,rG,uM,rC,qO,tK,sG,x150,x151,x152,x153,rT,qU,oU,x157,x158,x159,x160,sM,qX,qR,pX,rF,uG,x167,x168,sJ,uF,tV,qL,tF,uO,tY,uS,qH,lV,nX,mU,lY,mM,nE,oO,mJ,mQ,oF,qB,pV,qD,sZ,sU,tC,qV,rO,uH,rQ,qG,qW,oV,nK,pJ,nY,lZ,pI,nN,oC,nU,oG,mZ,lT,lS,oL,mI,nD,oI,pU,pQ,pY,rH,uE,rE,sW,uJ,rW,rR,sS,sD,sV,rX,rV,qN,rM,rA,tX,uQ,uK,qI,qZ,uC,uD,sN,tQ,uT,rY,uW,qC,tL,uU,uR,tJ,uB,uP,sH,mF,pM,mH,oJ,mK,pF,mP,nA,oK,mE,mO,oH,nH,nG,mR,pE,mG,nV,rZ,sO,rP,sF,rU],[]⟩ w:=by
 subst hcd
 have HQp:=Lib.hid hQp;have HK:=Lib.hid hK
 clear hQp hK
 have WD:=Lib.hid hWD;have OF:=Lib.hid hOF
 clear hWD hOF
 have hb:Below w.heap.size w w.drew:=(Gr.refl _).drew
 conv=>arg 2;whnf
 refine wp_region_held_drew (S:=(λu=>True)) (by kernel_rfl) ?_ (λhHeld=>?_)
 ·(dsimp only)
  (done)
 refine wpAnyH_take (i:=0) (v:=?tv1) rfl (by kernel_rfl) (by kernel_rfl) (by kernel_rfl) (λ_ _ _ h=>HQp.out _ _ _ _ h) (Or.inl ⟨by rfl,?Rp⟩) (by assumption) ?tr1
 (case Rp=>(intro w hSw;go_simp;with_reducible rfl))
 (simp only [Act.put,zs])
 refine wpAnyH_take (i:=1) (v:=?tv2) rfl (by kernel_rfl) (by kernel_rfl) (by kernel_rfl) (λ_ _ _ h=>HQp.out _ _ _ _ h) (Or.inl ⟨by rfl,?Qu⟩) (by assumption) ?tr2
 (case Qu=>(intro w hSw;go_simp;with_reducible rfl))
 (simp only [Act.put,zs])
 refine wpAnyH_take (i:=2) (v:=?tv3) rfl (by kernel_rfl) (by kernel_rfl) (by kernel_rfl) (λ_ _ _ h=>HQp.out _ _ _ _ h) (Or.inl ⟨by rfl,?Py⟩) (by assumption) ?tr3
 (case Py=>(intro w hSw;go_simp;with_reducible rfl))
 (simp only [Act.put,zs])
 refine wpAnyH_take (i:=3) (v:=?tv4) rfl (by kernel_rfl) (by kernel_rfl) (by kernel_rfl) (λ_ _ _ h=>HQp.out _ _ _ _ h) (Or.inl ⟨by rfl,?Vp⟩) (by assumption) ?tr4
 (case Vp=>(intro w hSw;go_simp;with_reducible rfl))
 (simp only [Act.put,zs])
 refine wpAnyH_take (i:=6) (v:=?tv5) rfl (by kernel_rfl) (by kernel_rfl) (by kernel_rfl) (λ_ _ _ h=>HQp.out _ _ _ _ h) (Or.inl ⟨by rfl,?Sm⟩) (by assumption) ?tr5
 (case Sm=>(intro w hSw;go_simp;with_reducible rfl))
 (simp only [Act.put,zs])
 refine wpAnyH_take (i:=8) (v:=?tv6) rfl (by kernel_rfl) (by kernel_rfl) (by kernel_rfl) (λ_ _ _ h=>HQp.out _ _ _ _ h) (Or.inl ⟨by rfl,?Qm⟩) (by assumption) ?tr6
 (case Qm=>(intro w hSw;go_simp;with_reducible rfl))
 (simp only [Act.put,zs])
 refine wpAnyH_ready (rs:=[4,7,9]) (by kernel_rfl) (by simp) ?_
 refine AllReadyH.cons rfl (λK hK=>?_) (AllReadyH.cons rfl (λK hK=>?_) (AllReadyH.cons rfl (λK hK=>?_) (AllReadyH.nil)))
 (((rw [if_pos (by kernel_rfl)]);(simp only [zq1,zq2,zq3]);go_big_op;(go_at_call 39;refine(WD.out _ hb).mono ?_;rintro e wn ⟨Zw,rfl,hWn,hbn⟩;replace hb:=Gr.trans hb hbn;have hW:=hWn;clear hWn hbn)))
 refine hK.out _ _ ?_ (λhHeld=>?_)
 ·(dsimp only)
  (done)
 clear hK K
 refine wpAnyH_ready (rs:=[5,7,9]) (by kernel_rfl) (by simp) ?_
 refine AllReadyH.cons rfl (λK hK=>?_) (AllReadyH.cons rfl (λK hK=>?_) (AllReadyH.cons rfl (λK hK=>?_) (AllReadyH.nil)))
 (((rw [if_pos (by kernel_rfl)]);(simp only [zq1,zq2,zq3]);go_big_op;(go_at_call 38;refine(OF.out _ hb _ hW).mono ?_;rintro e wn ⟨wa,wc,rfl,hOn,hbn⟩;replace hb:=Gr.trans hb hbn;(replace hW:=(hbn.block _ (aC hW)).trans hW);have hOf:=hOn;clear hOn hbn)))
 refine hK.out _ _ ?_ (λhHeld=>?_)
 ·(dsimp only)
  (done)
 clear hK K
 refine wpAnyH_ready (rs:=[7,9]) (by kernel_rfl) (by simp) ?_
 refine AllReadyH.cons rfl (λK hK=>?_) (AllReadyH.cons rfl (λK hK=>?_) (AllReadyH.nil))
 ((refine bZ (by rfl) _ _ _ (by rfl) nt _ _ hmkM (by rfl) (by rfl) ?_;intro bM wn hMn hleM hbn;replace hleM:=Nat.le_trans hb.size hleM;replace hb:=Gr.trans hb hbn;(replace hW:=(hbn.block _ (aC hW)).trans hW);(replace hOf:=dV hOf hbn);have hM:=hMn;clear hMn hbn))
 refine hK.out _ _ ?_ (λhHeld=>?_)
 ·(dsimp only)
  (done)
 clear hK K
 (simp only [Act.put,zs])
 refine wpAnyH_ready (rs:=[9]) (by kernel_rfl) (by simp) ?_
 refine AllReadyH.cons rfl (λK hK=>?_) AllReadyH.nil
 ((refine bZ (by rfl) _ _ _ (by rfl) sz _ _ hmkT (by rfl) (by rfl) ?_;intro bT wn hTn hleT hbn;(have hMT:bM≠bT:=λe9=>by(have h9:=aC hM;omega));replace hleT:=Nat.le_trans hb.size hleT;replace hb:=Gr.trans hb hbn;(replace hM:=(hbn.block _ (aC hM)).trans hM);(replace hW:=(hbn.block _ (aC hW)).trans hW);(replace hOf:=dV hOf hbn);have hT:=hTn;clear hTn hbn))
 refine hK.out _ _ ?_ (λhHeld=>?_)
 ·(dsimp only)
  (done)
 clear hK K
 (simp only [Act.put,zs])
 refine wpAnyH_ready (rs:=[10]) (by kernel_rfl) (by simp) ?_
 refine AllReadyH.cons rfl (λK hK=>?_) AllReadyH.nil
 ((rw [if_pos (by kernel_rfl)]);(simp only [zq1,zq2,zq3]);go_big_op)
 refine hK.out _ _ ?_ (λhHeld=>?_)
 ·(dsimp only)
  (done)
 clear hK K
 refine wpAnyH_ready (rs:=[11]) (by kernel_rfl) (by simp) ?_
 refine AllReadyH.cons rfl (λK hK=>?_) AllReadyH.nil
 ((rw [if_pos (by kernel_rfl)]);(simp only [zq1,zq2,zq3]);go_big_op)
 refine hK.out _ _ ?_ (λhHeld=>?_)
 ·(dsimp only)
  (done)
 clear hK K
 refine wpAnyH_ready (rs:=[12]) (by kernel_rfl) (by simp) ?_
 refine AllReadyH.cons rfl (λK hK=>?_) AllReadyH.nil
 ((rw [if_pos (by kernel_rfl)]);(simp only [zq1,zq2,zq3]);go_big_move)
 refine hK.out _ _ ?_ (λhHeld=>?_)
 ·(dsimp only)
  (done)
 clear hK K
 refine wpAnyH_done (by kernel_rfl) ?_ _
 rotate_left
 ((refine bZ (by rfl) _ _ _ (by rfl) sz _ _ hmkT (by rfl) (by rfl) ?_;intro bT wn hTn hleT hbn;replace hleT:=Nat.le_trans hb.size hleT;replace hb:=Gr.trans hb hbn;(replace hW:=(hbn.block _ (aC hW)).trans hW);(replace hOf:=dV hOf hbn);have hT:=hTn;clear hTn hbn))
 refine hK.out _ _ ?_ (λhHeld=>?_)
 ·(dsimp only)
  (done)
 clear hK K
 (simp only [Act.put,zs])
 refine wpAnyH_ready (rs:=[7]) (by kernel_rfl) (by simp) ?_
 refine AllReadyH.cons rfl (λK hK=>?_) AllReadyH.nil
 ((refine bZ (by rfl) _ _ _ (by rfl) nt _ _ hmkM (by rfl) (by rfl) ?_;intro bM wn hMn hleM hbn;(have hMT:bM≠bT:=λe9=>by(have h9:=aC hT;omega));replace hleM:=Nat.le_trans hb.size hleM;replace hb:=Gr.trans hb hbn;(replace hT:=(hbn.block _ (aC hT)).trans hT);(replace hW:=(hbn.block _ (aC hW)).trans hW);(replace hOf:=dV hOf hbn);have hM:=hMn;clear hMn hbn))
 refine hK.out _ _ ?_ (λhHeld=>?_)
 ·(dsimp only)
  (done)
 clear hK K
 (simp only [Act.put,zs])
 refine wpAnyH_ready (rs:=[10]) (by kernel_rfl) (by simp) ?_
 refine AllReadyH.cons rfl (λK hK=>?_) AllReadyH.nil
 ((rw [if_pos (by kernel_rfl)]);(simp only [zq1,zq2,zq3]);go_big_op)
 refine hK.out _ _ ?_ (λhHeld=>?_)
 ·(dsimp only)
  (done)
 clear hK K
 refine wpAnyH_ready (rs:=[11]) (by kernel_rfl) (by simp) ?_
 refine AllReadyH.cons rfl (λK hK=>?_) AllReadyH.nil
 ((rw [if_pos (by kernel_rfl)]);(simp only [zq1,zq2,zq3]);go_big_op)
 refine hK.out _ _ ?_ (λhHeld=>?_)
 ·(dsimp only)
  (done)
 clear hK K
 refine wpAnyH_ready (rs:=[12]) (by kernel_rfl) (by simp) ?_
 refine AllReadyH.cons rfl (λK hK=>?_) AllReadyH.nil
 ((rw [if_pos (by kernel_rfl)]);(simp only [zq1,zq2,zq3]);go_big_move)
 refine hK.out _ _ ?_ (λhHeld=>?_)
 ·(dsimp only)
  (done)
 clear hK K
 refine wpAnyH_done (by kernel_rfl) ?_ _
 rotate_left
 ((refine bZ (by rfl) _ _ _ (by rfl) nt _ _ hmkM (by rfl) (by rfl) ?_;intro bM wn hMn hleM hbn;replace hleM:=Nat.le_trans hb.size hleM;replace hb:=Gr.trans hb hbn;(replace hW:=(hbn.block _ (aC hW)).trans hW);have hM:=hMn;clear hMn hbn))
 refine hK.out _ _ ?_ (λhHeld=>?_)
 ·(dsimp only)
  (done)
 clear hK K
 (simp only [Act.put,zs])
 refine wpAnyH_ready (rs:=[5,9]) (by kernel_rfl) (by simp) ?_
 refine AllReadyH.cons rfl (λK hK=>?_) (AllReadyH.cons rfl (λK hK=>?_) (AllReadyH.nil))
 (((rw [if_pos (by kernel_rfl)]);(simp only [zq1,zq2,zq3]);go_big_op;(go_at_call 38;refine(OF.out _ hb _ hW).mono ?_;rintro e wn ⟨wa,wc,rfl,hOn,hbn⟩;replace hb:=Gr.trans hb hbn;(replace hM:=(hbn.block _ (aC hM)).trans hM);(replace hW:=(hbn.block _ (aC hW)).trans hW);have hOf:=hOn;clear hOn hbn)))
 refine hK.out _ _ ?_ (λhHeld=>?_)
 ·(dsimp only)
  (done)
 clear hK K
 refine wpAnyH_ready (rs:=[9]) (by kernel_rfl) (by simp) ?_
 refine AllReadyH.cons rfl (λK hK=>?_) AllReadyH.nil
 ((refine bZ (by rfl) _ _ _ (by rfl) sz _ _ hmkT (by rfl) (by rfl) ?_;intro bT wn hTn hleT hbn;(have hMT:bM≠bT:=λe9=>by(have h9:=aC hM;omega));replace hleT:=Nat.le_trans hb.size hleT;replace hb:=Gr.trans hb hbn;(replace hM:=(hbn.block _ (aC hM)).trans hM);(replace hW:=(hbn.block _ (aC hW)).trans hW);(replace hOf:=dV hOf hbn);have hT:=hTn;clear hTn hbn))
 refine hK.out _ _ ?_ (λhHeld=>?_)
 ·(dsimp only)
  (done)
 clear hK K
 (simp only [Act.put,zs])
 refine wpAnyH_ready (rs:=[10]) (by kernel_rfl) (by simp) ?_
 refine AllReadyH.cons rfl (λK hK=>?_) AllReadyH.nil
 ((rw [if_pos (by kernel_rfl)]);(simp only [zq1,zq2,zq3]);go_big_op)
 refine hK.out _ _ ?_ (λhHeld=>?_)
 ·(dsimp only)
  (done)
 clear hK K
 refine wpAnyH_ready (rs:=[11]) (by kernel_rfl) (by simp) ?_
 refine AllReadyH.cons rfl (λK hK=>?_) AllReadyH.nil
 ((rw [if_pos (by kernel_rfl)]);(simp only [zq1,zq2,zq3]);go_big_op)
 refine hK.out _ _ ?_ (λhHeld=>?_)
 ·(dsimp only)
  (done)
 clear hK K
 refine wpAnyH_ready (rs:=[12]) (by kernel_rfl) (by simp) ?_
 refine AllReadyH.cons rfl (λK hK=>?_) AllReadyH.nil
 ((rw [if_pos (by kernel_rfl)]);(simp only [zq1,zq2,zq3]);go_big_move)
 refine hK.out _ _ ?_ (λhHeld=>?_)
 ·(dsimp only)
  (done)
 clear hK K
 refine wpAnyH_done (by kernel_rfl) ?_ _
 rotate_left
 ((refine bZ (by rfl) _ _ _ (by rfl) sz _ _ hmkT (by rfl) (by rfl) ?_;intro bT wn hTn hleT hbn;(have hMT:bM≠bT:=λe9=>by(have h9:=aC hM;omega));replace hleT:=Nat.le_trans hb.size hleT;replace hb:=Gr.trans hb hbn;(replace hM:=(hbn.block _ (aC hM)).trans hM);(replace hW:=(hbn.block _ (aC hW)).trans hW);have hT:=hTn;clear hTn hbn))
 refine hK.out _ _ ?_ (λhHeld=>?_)
 ·(dsimp only)
  (done)
 clear hK K
 (simp only [Act.put,zs])
 refine wpAnyH_ready (rs:=[5]) (by kernel_rfl) (by simp) ?_
 refine AllReadyH.cons rfl (λK hK=>?_) AllReadyH.nil
 (((rw [if_pos (by kernel_rfl)]);(simp only [zq1,zq2,zq3]);go_big_op;(go_at_call 38;refine(OF.out _ hb _ hW).mono ?_;rintro e wn ⟨wa,wc,rfl,hOn,hbn⟩;replace hb:=Gr.trans hb hbn;(replace hM:=(hbn.block _ (aC hM)).trans hM);(replace hT:=(hbn.block _ (aC hT)).trans hT);(replace hW:=(hbn.block _ (aC hW)).trans hW);have hOf:=hOn;clear hOn hbn)))
 refine hK.out _ _ ?_ (λhHeld=>?_)
 ·(dsimp only)
  (done)
 clear hK K
 refine wpAnyH_ready (rs:=[10]) (by kernel_rfl) (by simp) ?_
 refine AllReadyH.cons rfl (λK hK=>?_) AllReadyH.nil
 ((rw [if_pos (by kernel_rfl)]);(simp only [zq1,zq2,zq3]);go_big_op)
 refine hK.out _ _ ?_ (λhHeld=>?_)
 ·(dsimp only)
  (done)
 clear hK K
 refine wpAnyH_ready (rs:=[11]) (by kernel_rfl) (by simp) ?_
 refine AllReadyH.cons rfl (λK hK=>?_) AllReadyH.nil
 ((rw [if_pos (by kernel_rfl)]);(simp only [zq1,zq2,zq3]);go_big_op)
 refine hK.out _ _ ?_ (λhHeld=>?_)
 ·(dsimp only)
  (done)
 clear hK K
 refine wpAnyH_ready (rs:=[12]) (by kernel_rfl) (by simp) ?_
 refine AllReadyH.cons rfl (λK hK=>?_) AllReadyH.nil
 ((rw [if_pos (by kernel_rfl)]);(simp only [zq1,zq2,zq3]);go_big_move)
 refine hK.out _ _ ?_ (λhHeld=>?_)
 ·(dsimp only)
  (done)
 clear hK K
 refine wpAnyH_done (by kernel_rfl) ?_ _
 rotate_left
 ((refine bZ (by rfl) _ _ _ (by rfl) sz _ _ hmkT (by rfl) (by rfl) ?_;intro bT wn hTn hleT hbn;replace hleT:=Nat.le_trans hb.size hleT;replace hb:=Gr.trans hb hbn;(replace hW:=(hbn.block _ (aC hW)).trans hW);have hT:=hTn;clear hTn hbn))
 refine hK.out _ _ ?_ (λhHeld=>?_)
 ·(dsimp only)
  (done)
 clear hK K
 (simp only [Act.put,zs])
 refine wpAnyH_ready (rs:=[5,7]) (by kernel_rfl) (by simp) ?_
 refine AllReadyH.cons rfl (λK hK=>?_) (AllReadyH.cons rfl (λK hK=>?_) (AllReadyH.nil))
 (((rw [if_pos (by kernel_rfl)]);(simp only [zq1,zq2,zq3]);go_big_op;(go_at_call 38;refine(OF.out _ hb _ hW).mono ?_;rintro e wn ⟨wa,wc,rfl,hOn,hbn⟩;replace hb:=Gr.trans hb hbn;(replace hT:=(hbn.block _ (aC hT)).trans hT);(replace hW:=(hbn.block _ (aC hW)).trans hW);have hOf:=hOn;clear hOn hbn)))
 refine hK.out _ _ ?_ (λhHeld=>?_)
 ·(dsimp only)
  (done)
 clear hK K
 refine wpAnyH_ready (rs:=[7]) (by kernel_rfl) (by simp) ?_
 refine AllReadyH.cons rfl (λK hK=>?_) AllReadyH.nil
 ((refine bZ (by rfl) _ _ _ (by rfl) nt _ _ hmkM (by rfl) (by rfl) ?_;intro bM wn hMn hleM hbn;(have hMT:bM≠bT:=λe9=>by(have h9:=aC hT;omega));replace hleM:=Nat.le_trans hb.size hleM;replace hb:=Gr.trans hb hbn;(replace hT:=(hbn.block _ (aC hT)).trans hT);(replace hW:=(hbn.block _ (aC hW)).trans hW);(replace hOf:=dV hOf hbn);have hM:=hMn;clear hMn hbn))
 refine hK.out _ _ ?_ (λhHeld=>?_)
 ·(dsimp only)
  (done)
 clear hK K
 (simp only [Act.put,zs])
 refine wpAnyH_ready (rs:=[10]) (by kernel_rfl) (by simp) ?_
 refine AllReadyH.cons rfl (λK hK=>?_) AllReadyH.nil
 ((rw [if_pos (by kernel_rfl)]);(simp only [zq1,zq2,zq3]);go_big_op)
 refine hK.out _ _ ?_ (λhHeld=>?_)
 ·(dsimp only)
  (done)
 clear hK K
 refine wpAnyH_ready (rs:=[11]) (by kernel_rfl) (by simp) ?_
 refine AllReadyH.cons rfl (λK hK=>?_) AllReadyH.nil
 ((rw [if_pos (by kernel_rfl)]);(simp only [zq1,zq2,zq3]);go_big_op)
 refine hK.out _ _ ?_ (λhHeld=>?_)
 ·(dsimp only)
  (done)
 clear hK K
 refine wpAnyH_ready (rs:=[12]) (by kernel_rfl) (by simp) ?_
 refine AllReadyH.cons rfl (λK hK=>?_) AllReadyH.nil
 ((rw [if_pos (by kernel_rfl)]);(simp only [zq1,zq2,zq3]);go_big_move)
 refine hK.out _ _ ?_ (λhHeld=>?_)
 ·(dsimp only)
  (done)
 clear hK K
 refine wpAnyH_done (by kernel_rfl) ?_ _
 rotate_left
 ((refine bZ (by rfl) _ _ _ (by rfl) nt _ _ hmkM (by rfl) (by rfl) ?_;intro bM wn hMn hleM hbn;(have hMT:bM≠bT:=λe9=>by(have h9:=aC hT;omega));replace hleM:=Nat.le_trans hb.size hleM;replace hb:=Gr.trans hb hbn;(replace hT:=(hbn.block _ (aC hT)).trans hT);(replace hW:=(hbn.block _ (aC hW)).trans hW);have hM:=hMn;clear hMn hbn))
 refine hK.out _ _ ?_ (λhHeld=>?_)
 ·(dsimp only)
  (done)
 clear hK K
 (simp only [Act.put,zs])
 refine wpAnyH_ready (rs:=[5]) (by kernel_rfl) (by simp) ?_
 refine AllReadyH.cons rfl (λK hK=>?_) AllReadyH.nil
 (((rw [if_pos (by kernel_rfl)]);(simp only [zq1,zq2,zq3]);go_big_op;(go_at_call 38;refine(OF.out _ hb _ hW).mono ?_;rintro e wn ⟨wa,wc,rfl,hOn,hbn⟩;replace hb:=Gr.trans hb hbn;(replace hM:=(hbn.block _ (aC hM)).trans hM);(replace hT:=(hbn.block _ (aC hT)).trans hT);(replace hW:=(hbn.block _ (aC hW)).trans hW);have hOf:=hOn;clear hOn hbn)))
 refine hK.out _ _ ?_ (λhHeld=>?_)
 ·(dsimp only)
  (done)
 clear hK K
 refine wpAnyH_ready (rs:=[10]) (by kernel_rfl) (by simp) ?_
 refine AllReadyH.cons rfl (λK hK=>?_) AllReadyH.nil
 ((rw [if_pos (by kernel_rfl)]);(simp only [zq1,zq2,zq3]);go_big_op)
 refine hK.out _ _ ?_ (λhHeld=>?_)
 ·(dsimp only)
  (done)
 clear hK K
 refine wpAnyH_ready (rs:=[11]) (by kernel_rfl) (by simp) ?_
 refine AllReadyH.cons rfl (λK hK=>?_) AllReadyH.nil
 ((rw [if_pos (by kernel_rfl)]);(simp only [zq1,zq2,zq3]);go_big_op)
 refine hK.out _ _ ?_ (λhHeld=>?_)
 ·(dsimp only)
  (done)
 clear hK K
 refine wpAnyH_ready (rs:=[12]) (by kernel_rfl) (by simp) ?_
 refine AllReadyH.cons rfl (λK hK=>?_) AllReadyH.nil
 ((rw [if_pos (by kernel_rfl)]);(simp only [zq1,zq2,zq3]);go_big_move)
 refine hK.out _ _ ?_ (λhHeld=>?_)
 ·(dsimp only)
  (done)
 clear hK K
 refine wpAnyH_done (by kernel_rfl) ?_ _
 rotate_left
 ((refine bZ (by rfl) _ _ _ (by rfl) nt _ _ hmkM (by rfl) (by rfl) ?_;intro bM wn hMn hleM hbn;replace hleM:=Nat.le_trans hb.size hleM;replace hb:=Gr.trans hb hbn;have hM:=hMn;clear hMn hbn))
 refine hK.out _ _ ?_ (λhHeld=>?_)
 ·(dsimp only)
  (done)
 clear hK K
 (simp only [Act.put,zs])
 refine wpAnyH_ready (rs:=[4,9]) (by kernel_rfl) (by simp) ?_
 refine AllReadyH.cons rfl (λK hK=>?_) (AllReadyH.cons rfl (λK hK=>?_) (AllReadyH.nil))
 (((rw [if_pos (by kernel_rfl)]);(simp only [zq1,zq2,zq3]);go_big_op;(go_at_call 39;refine(WD.out _ hb).mono ?_;rintro e wn ⟨Zw,rfl,hWn,hbn⟩;replace hb:=Gr.trans hb hbn;(replace hM:=(hbn.block _ (aC hM)).trans hM);have hW:=hWn;clear hWn hbn)))
 refine hK.out _ _ ?_ (λhHeld=>?_)
 ·(dsimp only)
  (done)
 clear hK K
 refine wpAnyH_ready (rs:=[5,9]) (by kernel_rfl) (by simp) ?_
 refine AllReadyH.cons rfl (λK hK=>?_) (AllReadyH.cons rfl (λK hK=>?_) (AllReadyH.nil))
 (((rw [if_pos (by kernel_rfl)]);(simp only [zq1,zq2,zq3]);go_big_op;(go_at_call 38;refine(OF.out _ hb _ hW).mono ?_;rintro e wn ⟨wa,wc,rfl,hOn,hbn⟩;replace hb:=Gr.trans hb hbn;(replace hM:=(hbn.block _ (aC hM)).trans hM);(replace hW:=(hbn.block _ (aC hW)).trans hW);have hOf:=hOn;clear hOn hbn)))
 refine hK.out _ _ ?_ (λhHeld=>?_)
 ·(dsimp only)
  (done)
 clear hK K
 refine wpAnyH_ready (rs:=[9]) (by kernel_rfl) (by simp) ?_
 refine AllReadyH.cons rfl (λK hK=>?_) AllReadyH.nil
 ((refine bZ (by rfl) _ _ _ (by rfl) sz _ _ hmkT (by rfl) (by rfl) ?_;intro bT wn hTn hleT hbn;(have hMT:bM≠bT:=λe9=>by(have h9:=aC hM;omega));replace hleT:=Nat.le_trans hb.size hleT;replace hb:=Gr.trans hb hbn;(replace hM:=(hbn.block _ (aC hM)).trans hM);(replace hW:=(hbn.block _ (aC hW)).trans hW);(replace hOf:=dV hOf hbn);have hT:=hTn;clear hTn hbn))
 refine hK.out _ _ ?_ (λhHeld=>?_)
 ·(dsimp only)
  (done)
 clear hK K
 (simp only [Act.put,zs])
 refine wpAnyH_ready (rs:=[10]) (by kernel_rfl) (by simp) ?_
 refine AllReadyH.cons rfl (λK hK=>?_) AllReadyH.nil
 ((rw [if_pos (by kernel_rfl)]);(simp only [zq1,zq2,zq3]);go_big_op)
 refine hK.out _ _ ?_ (λhHeld=>?_)
 ·(dsimp only)
  (done)
 clear hK K
 refine wpAnyH_ready (rs:=[11]) (by kernel_rfl) (by simp) ?_
 refine AllReadyH.cons rfl (λK hK=>?_) AllReadyH.nil
 ((rw [if_pos (by kernel_rfl)]);(simp only [zq1,zq2,zq3]);go_big_op)
 refine hK.out _ _ ?_ (λhHeld=>?_)
 ·(dsimp only)
  (done)
 clear hK K
 refine wpAnyH_ready (rs:=[12]) (by kernel_rfl) (by simp) ?_
 refine AllReadyH.cons rfl (λK hK=>?_) AllReadyH.nil
 ((rw [if_pos (by kernel_rfl)]);(simp only [zq1,zq2,zq3]);go_big_move)
 refine hK.out _ _ ?_ (λhHeld=>?_)
 ·(dsimp only)
  (done)
 clear hK K
 refine wpAnyH_done (by kernel_rfl) ?_ _
 rotate_left
 ((refine bZ (by rfl) _ _ _ (by rfl) sz _ _ hmkT (by rfl) (by rfl) ?_;intro bT wn hTn hleT hbn;(have hMT:bM≠bT:=λe9=>by(have h9:=aC hM;omega));replace hleT:=Nat.le_trans hb.size hleT;replace hb:=Gr.trans hb hbn;(replace hM:=(hbn.block _ (aC hM)).trans hM);(replace hW:=(hbn.block _ (aC hW)).trans hW);have hT:=hTn;clear hTn hbn))
 refine hK.out _ _ ?_ (λhHeld=>?_)
 ·(dsimp only)
  (done)
 clear hK K
 (simp only [Act.put,zs])
 refine wpAnyH_ready (rs:=[5]) (by kernel_rfl) (by simp) ?_
 refine AllReadyH.cons rfl (λK hK=>?_) AllReadyH.nil
 (((rw [if_pos (by kernel_rfl)]);(simp only [zq1,zq2,zq3]);go_big_op;(go_at_call 38;refine(OF.out _ hb _ hW).mono ?_;rintro e wn ⟨wa,wc,rfl,hOn,hbn⟩;replace hb:=Gr.trans hb hbn;(replace hM:=(hbn.block _ (aC hM)).trans hM);(replace hT:=(hbn.block _ (aC hT)).trans hT);(replace hW:=(hbn.block _ (aC hW)).trans hW);have hOf:=hOn;clear hOn hbn)))
 refine hK.out _ _ ?_ (λhHeld=>?_)
 ·(dsimp only)
  (done)
 clear hK K
 refine wpAnyH_ready (rs:=[10]) (by kernel_rfl) (by simp) ?_
 refine AllReadyH.cons rfl (λK hK=>?_) AllReadyH.nil
 ((rw [if_pos (by kernel_rfl)]);(simp only [zq1,zq2,zq3]);go_big_op)
 refine hK.out _ _ ?_ (λhHeld=>?_)
 ·(dsimp only)
  (done)
 clear hK K
 refine wpAnyH_ready (rs:=[11]) (by kernel_rfl) (by simp) ?_
 refine AllReadyH.cons rfl (λK hK=>?_) AllReadyH.nil
 ((rw [if_pos (by kernel_rfl)]);(simp only [zq1,zq2,zq3]);go_big_op)
 refine hK.out _ _ ?_ (λhHeld=>?_)
 ·(dsimp only)
  (done)
 clear hK K
 refine wpAnyH_ready (rs:=[12]) (by kernel_rfl) (by simp) ?_
 refine AllReadyH.cons rfl (λK hK=>?_) AllReadyH.nil
 ((rw [if_pos (by kernel_rfl)]);(simp only [zq1,zq2,zq3]);go_big_move)
 refine hK.out _ _ ?_ (λhHeld=>?_)
 ·(dsimp only)
  (done)
 clear hK K
 refine wpAnyH_done (by kernel_rfl) ?_ _
 rotate_left
 ((refine bZ (by rfl) _ _ _ (by rfl) sz _ _ hmkT (by rfl) (by rfl) ?_;intro bT wn hTn hleT hbn;(have hMT:bM≠bT:=λe9=>by(have h9:=aC hM;omega));replace hleT:=Nat.le_trans hb.size hleT;replace hb:=Gr.trans hb hbn;(replace hM:=(hbn.block _ (aC hM)).trans hM);have hT:=hTn;clear hTn hbn))
 refine hK.out _ _ ?_ (λhHeld=>?_)
 ·(dsimp only)
  (done)
 clear hK K
 (simp only [Act.put,zs])
 refine wpAnyH_ready (rs:=[4]) (by kernel_rfl) (by simp) ?_
 refine AllReadyH.cons rfl (λK hK=>?_) AllReadyH.nil
 (((rw [if_pos (by kernel_rfl)]);(simp only [zq1,zq2,zq3]);go_big_op;(go_at_call 39;refine(WD.out _ hb).mono ?_;rintro e wn ⟨Zw,rfl,hWn,hbn⟩;replace hb:=Gr.trans hb hbn;(replace hM:=(hbn.block _ (aC hM)).trans hM);(replace hT:=(hbn.block _ (aC hT)).trans hT);have hW:=hWn;clear hWn hbn)))
 refine hK.out _ _ ?_ (λhHeld=>?_)
 ·(dsimp only)
  (done)
 clear hK K
 refine wpAnyH_ready (rs:=[5]) (by kernel_rfl) (by simp) ?_
 refine AllReadyH.cons rfl (λK hK=>?_) AllReadyH.nil
 (((rw [if_pos (by kernel_rfl)]);(simp only [zq1,zq2,zq3]);go_big_op;(go_at_call 38;refine(OF.out _ hb _ hW).mono ?_;rintro e wn ⟨wa,wc,rfl,hOn,hbn⟩;replace hb:=Gr.trans hb hbn;(replace hM:=(hbn.block _ (aC hM)).trans hM);(replace hT:=(hbn.block _ (aC hT)).trans hT);(replace hW:=(hbn.block _ (aC hW)).trans hW);have hOf:=hOn;clear hOn hbn)))
 refine hK.out _ _ ?_ (λhHeld=>?_)
 ·(dsimp only)
  (done)
 clear hK K
 refine wpAnyH_ready (rs:=[10]) (by kernel_rfl) (by simp) ?_
 refine AllReadyH.cons rfl (λK hK=>?_) AllReadyH.nil
 ((rw [if_pos (by kernel_rfl)]);(simp only [zq1,zq2,zq3]);go_big_op)
 refine hK.out _ _ ?_ (λhHeld=>?_)
 ·(dsimp only)
  (done)
 clear hK K
 refine wpAnyH_ready (rs:=[11]) (by kernel_rfl) (by simp) ?_
 refine AllReadyH.cons rfl (λK hK=>?_) AllReadyH.nil
 ((rw [if_pos (by kernel_rfl)]);(simp only [zq1,zq2,zq3]);go_big_op)
 refine hK.out _ _ ?_ (λhHeld=>?_)
 ·(dsimp only)
  (done)
 clear hK K
 refine wpAnyH_ready (rs:=[12]) (by kernel_rfl) (by simp) ?_
 refine AllReadyH.cons rfl (λK hK=>?_) AllReadyH.nil
 ((rw [if_pos (by kernel_rfl)]);(simp only [zq1,zq2,zq3]);go_big_move)
 refine hK.out _ _ ?_ (λhHeld=>?_)
 ·(dsimp only)
  (done)
 clear hK K
 refine wpAnyH_done (by kernel_rfl) ?_ _
 rotate_left
 ((refine bZ (by rfl) _ _ _ (by rfl) sz _ _ hmkT (by rfl) (by rfl) ?_;intro bT wn hTn hleT hbn;replace hleT:=Nat.le_trans hb.size hleT;replace hb:=Gr.trans hb hbn;have hT:=hTn;clear hTn hbn))
 refine hK.out _ _ ?_ (λhHeld=>?_)
 ·(dsimp only)
  (done)
 clear hK K
 (simp only [Act.put,zs])
 refine wpAnyH_ready (rs:=[4,7]) (by kernel_rfl) (by simp) ?_
 refine AllReadyH.cons rfl (λK hK=>?_) (AllReadyH.cons rfl (λK hK=>?_) (AllReadyH.nil))
 (((rw [if_pos (by kernel_rfl)]);(simp only [zq1,zq2,zq3]);go_big_op;(go_at_call 39;refine(WD.out _ hb).mono ?_;rintro e wn ⟨Zw,rfl,hWn,hbn⟩;replace hb:=Gr.trans hb hbn;(replace hT:=(hbn.block _ (aC hT)).trans hT);have hW:=hWn;clear hWn hbn)))
 refine hK.out _ _ ?_ (λhHeld=>?_)
 ·(dsimp only)
  (done)
 clear hK K
 refine wpAnyH_ready (rs:=[5,7]) (by kernel_rfl) (by simp) ?_
 refine AllReadyH.cons rfl (λK hK=>?_) (AllReadyH.cons rfl (λK hK=>?_) (AllReadyH.nil))
 (((rw [if_pos (by kernel_rfl)]);(simp only [zq1,zq2,zq3]);go_big_op;(go_at_call 38;refine(OF.out _ hb _ hW).mono ?_;rintro e wn ⟨wa,wc,rfl,hOn,hbn⟩;replace hb:=Gr.trans hb hbn;(replace hT:=(hbn.block _ (aC hT)).trans hT);(replace hW:=(hbn.block _ (aC hW)).trans hW);have hOf:=hOn;clear hOn hbn)))
 refine hK.out _ _ ?_ (λhHeld=>?_)
 ·(dsimp only)
  (done)
 clear hK K
 refine wpAnyH_ready (rs:=[7]) (by kernel_rfl) (by simp) ?_
 refine AllReadyH.cons rfl (λK hK=>?_) AllReadyH.nil
 ((refine bZ (by rfl) _ _ _ (by rfl) nt _ _ hmkM (by rfl) (by rfl) ?_;intro bM wn hMn hleM hbn;(have hMT:bM≠bT:=λe9=>by(have h9:=aC hT;omega));replace hleM:=Nat.le_trans hb.size hleM;replace hb:=Gr.trans hb hbn;(replace hT:=(hbn.block _ (aC hT)).trans hT);(replace hW:=(hbn.block _ (aC hW)).trans hW);(replace hOf:=dV hOf hbn);have hM:=hMn;clear hMn hbn))
 refine hK.out _ _ ?_ (λhHeld=>?_)
 ·(dsimp only)
  (done)
 clear hK K
 (simp only [Act.put,zs])
 refine wpAnyH_ready (rs:=[10]) (by kernel_rfl) (by simp) ?_
 refine AllReadyH.cons rfl (λK hK=>?_) AllReadyH.nil
 ((rw [if_pos (by kernel_rfl)]);(simp only [zq1,zq2,zq3]);go_big_op)
 refine hK.out _ _ ?_ (λhHeld=>?_)
 ·(dsimp only)
  (done)
 clear hK K
 refine wpAnyH_ready (rs:=[11]) (by kernel_rfl) (by simp) ?_
 refine AllReadyH.cons rfl (λK hK=>?_) AllReadyH.nil
 ((rw [if_pos (by kernel_rfl)]);(simp only [zq1,zq2,zq3]);go_big_op)
 refine hK.out _ _ ?_ (λhHeld=>?_)
 ·(dsimp only)
  (done)
 clear hK K
 refine wpAnyH_ready (rs:=[12]) (by kernel_rfl) (by simp) ?_
 refine AllReadyH.cons rfl (λK hK=>?_) AllReadyH.nil
 ((rw [if_pos (by kernel_rfl)]);(simp only [zq1,zq2,zq3]);go_big_move)
 refine hK.out _ _ ?_ (λhHeld=>?_)
 ·(dsimp only)
  (done)
 clear hK K
 refine wpAnyH_done (by kernel_rfl) ?_ _
 rotate_left
 ((refine bZ (by rfl) _ _ _ (by rfl) nt _ _ hmkM (by rfl) (by rfl) ?_;intro bM wn hMn hleM hbn;(have hMT:bM≠bT:=λe9=>by(have h9:=aC hT;omega));replace hleM:=Nat.le_trans hb.size hleM;replace hb:=Gr.trans hb hbn;(replace hT:=(hbn.block _ (aC hT)).trans hT);(replace hW:=(hbn.block _ (aC hW)).trans hW);have hM:=hMn;clear hMn hbn))
 refine hK.out _ _ ?_ (λhHeld=>?_)
 ·(dsimp only)
  (done)
 clear hK K
 (simp only [Act.put,zs])
 refine wpAnyH_ready (rs:=[5]) (by kernel_rfl) (by simp) ?_
 refine AllReadyH.cons rfl (λK hK=>?_) AllReadyH.nil
 (((rw [if_pos (by kernel_rfl)]);(simp only [zq1,zq2,zq3]);go_big_op;(go_at_call 38;refine(OF.out _ hb _ hW).mono ?_;rintro e wn ⟨wa,wc,rfl,hOn,hbn⟩;replace hb:=Gr.trans hb hbn;(replace hM:=(hbn.block _ (aC hM)).trans hM);(replace hT:=(hbn.block _ (aC hT)).trans hT);(replace hW:=(hbn.block _ (aC hW)).trans hW);have hOf:=hOn;clear hOn hbn)))
 refine hK.out _ _ ?_ (λhHeld=>?_)
 ·(dsimp only)
  (done)
 clear hK K
 refine wpAnyH_ready (rs:=[10]) (by kernel_rfl) (by simp) ?_
 refine AllReadyH.cons rfl (λK hK=>?_) AllReadyH.nil
 ((rw [if_pos (by kernel_rfl)]);(simp only [zq1,zq2,zq3]);go_big_op)
 refine hK.out _ _ ?_ (λhHeld=>?_)
 ·(dsimp only)
  (done)
 clear hK K
 refine wpAnyH_ready (rs:=[11]) (by kernel_rfl) (by simp) ?_
 refine AllReadyH.cons rfl (λK hK=>?_) AllReadyH.nil
 ((rw [if_pos (by kernel_rfl)]);(simp only [zq1,zq2,zq3]);go_big_op)
 refine hK.out _ _ ?_ (λhHeld=>?_)
 ·(dsimp only)
  (done)
 clear hK K
 refine wpAnyH_ready (rs:=[12]) (by kernel_rfl) (by simp) ?_
 refine AllReadyH.cons rfl (λK hK=>?_) AllReadyH.nil
 ((rw [if_pos (by kernel_rfl)]);(simp only [zq1,zq2,zq3]);go_big_move)
 refine hK.out _ _ ?_ (λhHeld=>?_)
 ·(dsimp only)
  (done)
 clear hK K
 refine wpAnyH_done (by kernel_rfl) ?_ _
 rotate_left
 ((refine bZ (by rfl) _ _ _ (by rfl) nt _ _ hmkM (by rfl) (by rfl) ?_;intro bM wn hMn hleM hbn;(have hMT:bM≠bT:=λe9=>by(have h9:=aC hT;omega));replace hleM:=Nat.le_trans hb.size hleM;replace hb:=Gr.trans hb hbn;(replace hT:=(hbn.block _ (aC hT)).trans hT);have hM:=hMn;clear hMn hbn))
 refine hK.out _ _ ?_ (λhHeld=>?_)
 ·(dsimp only)
  (done)
 clear hK K
 (simp only [Act.put,zs])
 refine wpAnyH_ready (rs:=[4]) (by kernel_rfl) (by simp) ?_
 refine AllReadyH.cons rfl (λK hK=>?_) AllReadyH.nil
 (((rw [if_pos (by kernel_rfl)]);(simp only [zq1,zq2,zq3]);go_big_op;(go_at_call 39;refine(WD.out _ hb).mono ?_;rintro e wn ⟨Zw,rfl,hWn,hbn⟩;replace hb:=Gr.trans hb hbn;(replace hM:=(hbn.block _ (aC hM)).trans hM);(replace hT:=(hbn.block _ (aC hT)).trans hT);have hW:=hWn;clear hWn hbn)))
 refine hK.out _ _ ?_ (λhHeld=>?_)
 ·(dsimp only)
  (done)
 clear hK K
 refine wpAnyH_ready (rs:=[5]) (by kernel_rfl) (by simp) ?_
 refine AllReadyH.cons rfl (λK hK=>?_) AllReadyH.nil
 (((rw [if_pos (by kernel_rfl)]);(simp only [zq1,zq2,zq3]);go_big_op;(go_at_call 38;refine(OF.out _ hb _ hW).mono ?_;rintro e wn ⟨wa,wc,rfl,hOn,hbn⟩;replace hb:=Gr.trans hb hbn;(replace hM:=(hbn.block _ (aC hM)).trans hM);(replace hT:=(hbn.block _ (aC hT)).trans hT);(replace hW:=(hbn.block _ (aC hW)).trans hW);have hOf:=hOn;clear hOn hbn)))
 refine hK.out _ _ ?_ (λhHeld=>?_)
 ·(dsimp only)
  (done)
 clear hK K
 refine wpAnyH_ready (rs:=[10]) (by kernel_rfl) (by simp) ?_
 refine AllReadyH.cons rfl (λK hK=>?_) AllReadyH.nil
 ((rw [if_pos (by kernel_rfl)]);(simp only [zq1,zq2,zq3]);go_big_op)
 refine hK.out _ _ ?_ (λhHeld=>?_)
 ·(dsimp only)
  (done)
 clear hK K
 refine wpAnyH_ready (rs:=[11]) (by kernel_rfl) (by simp) ?_
 refine AllReadyH.cons rfl (λK hK=>?_) AllReadyH.nil
 ((rw [if_pos (by kernel_rfl)]);(simp only [zq1,zq2,zq3]);go_big_op)
 refine hK.out _ _ ?_ (λhHeld=>?_)
 ·(dsimp only)
  (done)
 clear hK K
 refine wpAnyH_ready (rs:=[12]) (by kernel_rfl) (by simp) ?_
 refine AllReadyH.cons rfl (λK hK=>?_) AllReadyH.nil
 ((rw [if_pos (by kernel_rfl)]);(simp only [zq1,zq2,zq3]);go_big_move)
 refine hK.out _ _ ?_ (λhHeld=>?_)
 ·(dsimp only)
  (done)
 clear hK K
 refine wpAnyH_done (by kernel_rfl) ?_ _
 all_goals
  have Zv:=Gr.new wn (.cells #[.slice wa sz wc,.int .i64 0,.int .i64 0,.int .i64 0,.int .i64 0,.int .i64 0,.int .i64 0,.slice (some ⟨bM,0,none⟩) nt nt,.slice (some ⟨bT,0,none⟩) sz sz,.slice none 0 0] 93)
  exact HK.out _ _ _ _ _ _ _ _ _ _ _ _ _ _ ⟨bM,bT,wa,wc,Gr.trans hb Zv,heap_alloc_new _ _,(Zv.block _ (aC hM)).trans hM,(Zv.block _ (aC hT)).trans hT,dV hOf Zv,hb.size,hleM,hleT,hMT⟩
end Go.Proofs.YtfkokppncipgnaaGreat
