/- A reference's play: its world is made: region 7 of roundelayplain.Log. -/
import Derived.Test.YtfkokppncipgnaaGreatV29
set_option maxRecDepth 100000
set_option linter.unusedVariables false
set_option linter.unusedSimpArgs false
set_option linter.unnecessarySimpa false
namespace Go.Proofs.YtfkokppncipgnaaGreat
open List renaming getElem_toArray → zq1, getElem_cons_zero → zq2, getElem_cons_succ → zq3, setIfInBounds_toArray → zq4, set_cons_zero → zq5, set_cons_succ → zq6
open Go.RowKit
set_option maxHeartbeats 4000000 in
theorem log_r7 {w:World} {nt sz bS g gc:Nat} {x2 x3 x4 x5 x6 x7 x8 x9 x10 x11 x14 x15 x16 x17 x18 x19 x20 x21 x22 x23 x24 x25 x26 x27 x28 x29 x30 x31 x32 x33 x34 x35 x36 x37 x38 x39 x40 x41 x42 x43 x44 x45 x46 x47 x48 x49 x50 x51 x52 x53 x54 x55 x56 x57 x58 x59 x60 x61 x62 x63 x64 x65 x66 x67 x68 x69 x70 x71 x72 x73 x74 x75 x76 x77 x78 x79 x80 x81 x82 x83 x84 x85 x86 x87 x88 x89 x90 x91 x92 x93 x94 x95 x96 x97 x98 x99 x100 x101 x102 x103 x104 x105 x106 x107 x108 x109 x110 x111 x112 x113 x114 x115 x116 x117 x118 x119 x120 x121 x122 x123 x124 x125 x126 x127 x128 x129 x130 x131 x132 x133 x134 x135 x136 x137 x138 x139 x140 x141 x142 x143 x144 x145 x146 x147 x148 x149 x150 x151 x152 x153 x154 x155 x156 x157 x158 x159 x160 x161 x162 x163 x164 x165 x166 x167 x168 x169 x170 x171 x172 x173 x174 x175 x176 x177 x178 x179 x180 x181 x182 x183 x184 x185 x186 x187 x188 x189 x190 x191 x192 x193 x194 x195 x196 x197 x198 x199 x200 x201 x202 x203 x204 x205 x206 x207 x208 x209 x210 x211 x212 x213 x214 x215 x216 x217 x218 x219 x220 x221 x222 x223 x224 x225 x226 x227 x228 x229 x230 x231 x232 x233 x234 x235 x236 x237 x238 x239 x240 x241 x242 x243 x244 x245 x246 x247 x248 x249 x250 x251 x252 x253 x254 x255 x256 x257 x258 x259 x260 x261 x262 x263 x264 x265 x266 x267 x268 x269 x270 x271 x272 x273 x274 x275 x276 x277:Value} {K:Act->World->Prop} {Q0:Exit->Act->World->Prop} {cd:Code} (hcd:cd=logReg 7) (hQp:∀ c d v (a:Act) {w},Q0 (.panic c) (a.put d v) w->Q0 (.panic c) a w) (hmkM:∀ u:World,(Instr.makeSlice 91 (.int .i64 (nt:Int)) (.int .i64 (nt:Int))).run Tryz.prog u=.ok (.slice (some ⟨u.heap.size,0,none⟩) nt nt) (u.alloc (.cells (List.replicate nt (Value.slice none 0 0)).toArray 24))) (hmkT:∀ u:World,(Instr.makeSlice 91 (.int .i64 (sz:Int)) (.int .i64 (sz:Int))).run Tryz.prog u=.ok (.slice (some ⟨u.heap.size,0,none⟩) sz sz) (u.alloc (.cells (List.replicate sz (Value.slice none 0 0)).toArray 24))) (hWD:∀ u:World,Below w.heap.size w u->Calls Tryz.prog 39 #[.int .i64 (nt:Int),.slice (some ⟨bS,0,none⟩) 1 1,.slice (some ⟨g,0,none⟩) 1 gc,.int .i64 (sz:Int)] u λe w'=>∃ b,e=.returned (.slice (some ⟨b,0,none⟩) sz sz)/\w'.heap[b]?=some (.cells (madeCells #[.int .u64 0] sz) 46 (0,0))/\Below u.heap.size u w') (hOF:∀ u:World,Below w.heap.size w u->∀ b,u.heap[b]?=some (.cells (madeCells #[.int .u64 0] sz) 46 (0,0))->Calls Tryz.prog 38 #[.slice (some ⟨b,0,none⟩) sz sz] u λe w'=>∃ wa wc,e=.returned (.agg #[.slice wa sz wc,.int .i64 0,.int .i64 0,.int .i64 0,.int .i64 0,.int .i64 0])/\w'.ownsRow w.heap.size 46 1 (.slice wa sz wc) sz ((List.replicate sz 0).map u64V)/\Below u.heap.size u w')
  (hK:∀(y46 y47 y48 y49 y50 y51 y52 y53 y54 y55 y56 y57:Value) (bW:Nat) (w':World),(∃ bM bT wa wc,RInit w w' nt sz bM bT bW wa wc)->K ⟨#[.int .i64 (nt:Int),.slice (some ⟨bS,0,none⟩) 1 1,x2,x3,x4,x5,x6,x7,x8,x9,x10,x11,.slice (some ⟨g,0,none⟩) 1 gc,.int .i64 (sz:Int),x14,.pointer (some ⟨bW,0,none⟩),x16,x17,x18,x19,x20,x21,x22,x23,x24,x25,x26,x27,x28,x29,x30,x31,x32,x33,x34,x35,x36,x37,x38,x39,x40,x41,x42,x43,x44,x45,y46,y47,y48,y49,y50,y51,y52,y53,y54,y55,y56,y57,x58,x59,x60,x61,x62,x63,x64,x65,x66,x67,x68,x69,x70,x71,x72,x73,x74,x75,x76,x77,x78,x79,x80,x81,x82,x83,x84,x85,x86,x87,x88,x89,x90,x91,x92,x93,x94,x95,x96,x97,x98,x99,x100,x101,x102,x103,x104,x105,x106,x107,x108,x109,x110,x111,x112,x113,x114,x115,x116,x117,x118,x119,x120,x121,x122,x123,x124,x125,x126,x127,x128,x129,x130,x131,x132,x133,x134,x135,x136,x137,x138,x139,x140,x141,x142,x143,x144,x145,x146,x147,x148,x149,x150,x151,x152,x153,x154,x155,x156,x157,x158,x159,x160,x161,x162,x163,x164,x165,x166,x167,x168,x169,x170,x171,x172,x173,x174,x175,x176,x177,x178,x179,x180,x181,x182,x183,x184,x185,x186,x187,x188,x189,x190,x191,x192,x193,x194,x195,x196,x197,x198,x199,x200,x201,x202,x203,x204,x205,x206,x207,x208,x209,x210,x211,x212,x213,x214,x215,x216,x217,x218,x219,x220,x221,x222,x223,x224,x225,x226,x227,x228,x229,x230,x231,x232,x233,x234,x235,x236,x237,x238,x239,x240,x241,x242,x243,x244,x245,x246,x247,x248,x249,x250,x251,x252,x253,x254,x255,x256,x257,x258,x259,x260,x261,x262,x263,x264,x265,x266,x267,x268,x269,x270,x271,x272,x273,x274,x275,x276,x277],[]⟩ w'):Code.wp Tryz.prog cd (Exit.then K Q0) ⟨#[.int .i64 (nt:Int),.slice (some ⟨bS,0,none⟩) 1 1,x2,x3,x4,x5,x6,x7,x8,x9,x10,x11,.slice (some ⟨g,0,none⟩) 1 gc,.int .i64 (sz:Int),x14,x15,x16,x17,x18,x19,x20,x21,x22,x23,x24,x25,x26,x27,x28,x29,x30,x31,x32,x33,x34,x35,x36,x37,x38,x39,x40,x41,x42,x43,x44,x45,x46,x47,x48,x49,x50,x51,x52,x53,x54,x55,x56,x57,x58,x59,x60,x61,x62,x63,x64,x65,x66,x67,x68,x69,x70,x71,x72,x73,x74,x75,x76,x77,x78,x79,x80,x81,x82,x83,x84,x85,x86,x87,x88,x89,x90,x91,x92,x93,x94,x95,x96,x97,x98,x99,x100,x101,x102,x103,x104,x105,x106,x107,x108,x109,x110,x111,x112,x113,x114,x115,x116,x117,x118,x119,x120,x121,x122,x123,x124,x125,x126,x127,x128,x129,x130,x131,x132,x133,x134,x135,x136,x137,x138,x139,x140,x141,x142,x143,x144,x145,x146,x147,x148,x149,x150,x151,x152,x153,x154,x155,x156,x157,x158,x159,x160,x161,x162,x163,x164,x165,x166,x167,x168,x169,x170,x171,x172,x173,x174,x175,x176,x177,x178,x179,x180,x181,x182,x183,x184,x185,x186,x187,x188,x189,x190,x191,x192,x193,x194,x195,x196,x197,x198,x199,x200,x201,x202,x203,x204,x205,x206,x207,x208,x209,x210,x211,x212,x213,x214,x215,x216,x217,x218,x219,x220,x221,x222,x223,x224,x225,x226,x227,x228,x229,x230,x231,x232,x233,x234,x235,x236,x237,x238,x239,x240,x241,x242,x243,x244,x245,x246,x247,x248,x249,x250,x251,x252,x253,x254,x255,x256,x257,x258,x259,x260,x261,x262,x263,x264,x265,x266,x267,x268,x269,x270,x271,x272,x273,x274,x275,x276,x277],[]⟩ w:=by
 subst hcd
 have HQp:=Lib.hid hQp;have HK:=Lib.hid hK
 clear hQp hK
 have WD:=Lib.hid hWD;have OF:=Lib.hid hOF
 clear hWD hOF
 have hb:Below w.heap.size w w.drew:=(Gr.refl _).drew
 conv=>arg 2;whnf
 refine wp_region_held_drew (S:=(λu=>True)) (by kernel_rfl) ?_ (λhHeld=>?_)
 ·(dsimp only)
  (done)
 refine wpAnyH_take (i:=0) (v:=?tv1) rfl (by kernel_rfl) (by kernel_rfl) (by kernel_rfl) (λ_ _ _ h=>HQp.out _ _ _ _ h) (Or.inl ⟨by rfl,?th1⟩) (by assumption) ?tr1
 (case th1=>(intro w hSw;go_simp;with_reducible rfl))
 (simp only [Act.put,zq1,zq2,zq3,zq4,zq5,zq6])
 refine wpAnyH_take (i:=1) (v:=?tv2) rfl (by kernel_rfl) (by kernel_rfl) (by kernel_rfl) (λ_ _ _ h=>HQp.out _ _ _ _ h) (Or.inl ⟨by rfl,?th2⟩) (by assumption) ?tr2
 (case th2=>(intro w hSw;go_simp;with_reducible rfl))
 (simp only [Act.put,zq1,zq2,zq3,zq4,zq5,zq6])
 refine wpAnyH_take (i:=2) (v:=?tv3) rfl (by kernel_rfl) (by kernel_rfl) (by kernel_rfl) (λ_ _ _ h=>HQp.out _ _ _ _ h) (Or.inl ⟨by rfl,?th3⟩) (by assumption) ?tr3
 (case th3=>(intro w hSw;go_simp;with_reducible rfl))
 (simp only [Act.put,zq1,zq2,zq3,zq4,zq5,zq6])
 refine wpAnyH_take (i:=3) (v:=?tv4) rfl (by kernel_rfl) (by kernel_rfl) (by kernel_rfl) (λ_ _ _ h=>HQp.out _ _ _ _ h) (Or.inl ⟨by rfl,?th4⟩) (by assumption) ?tr4
 (case th4=>(intro w hSw;go_simp;with_reducible rfl))
 (simp only [Act.put,zq1,zq2,zq3,zq4,zq5,zq6])
 refine wpAnyH_take (i:=6) (v:=?tv5) rfl (by kernel_rfl) (by kernel_rfl) (by kernel_rfl) (λ_ _ _ h=>HQp.out _ _ _ _ h) (Or.inl ⟨by rfl,?th5⟩) (by assumption) ?tr5
 (case th5=>(intro w hSw;go_simp;with_reducible rfl))
 (simp only [Act.put,zq1,zq2,zq3,zq4,zq5,zq6])
 refine wpAnyH_take (i:=8) (v:=?tv6) rfl (by kernel_rfl) (by kernel_rfl) (by kernel_rfl) (λ_ _ _ h=>HQp.out _ _ _ _ h) (Or.inl ⟨by rfl,?th6⟩) (by assumption) ?tr6
 (case th6=>(intro w hSw;go_simp;with_reducible rfl))
 (simp only [Act.put,zq1,zq2,zq3,zq4,zq5,zq6])
 refine wpAnyH_ready (rs:=[4,7,9]) (by kernel_rfl) (by simp) ?_
 refine AllReadyH.cons rfl (λK hK=>?_) (AllReadyH.cons rfl (λK hK=>?_) (AllReadyH.cons rfl (λK hK=>?_) (AllReadyH.nil)))
 (((rw [if_pos (by kernel_rfl)]);(simp only [zq1,zq2,zq3]);go_big_op;(go_at_call 39;refine(WD.out _ hb).mono ?_;rintro e wn ⟨bq0,rfl,hWn,hbn⟩;replace hb:=Gr.trans hb hbn;have hW:=hWn;clear hWn hbn)))
 refine hK.out _ _ ?_ (λhHeld=>?_)
 ·(dsimp only)
  (done)
 clear hK K
 refine wpAnyH_ready (rs:=[5,7,9]) (by kernel_rfl) (by simp) ?_
 refine AllReadyH.cons rfl (λK hK=>?_) (AllReadyH.cons rfl (λK hK=>?_) (AllReadyH.cons rfl (λK hK=>?_) (AllReadyH.nil)))
 (((rw [if_pos (by kernel_rfl)]);(simp only [zq1,zq2,zq3]);go_big_op;(go_at_call 38;refine(OF.out _ hb _ hW).mono ?_;rintro e wn ⟨wa,wc,rfl,hOn,hbn⟩;replace hb:=Gr.trans hb hbn;(replace hW:=(hbn.block _ (blk_lt hW)).trans hW);have hOf:=hOn;clear hOn hbn)))
 refine hK.out _ _ ?_ (λhHeld=>?_)
 ·(dsimp only)
  (done)
 clear hK K
 refine wpAnyH_ready (rs:=[7,9]) (by kernel_rfl) (by simp) ?_
 refine AllReadyH.cons rfl (λK hK=>?_) (AllReadyH.cons rfl (λK hK=>?_) (AllReadyH.nil))
 ((refine step_make_any (by rfl) _ _ _ (by rfl) nt _ _ hmkM (by rfl) (by rfl) ?_;intro bM wn hMn hleM hbn;replace hleM:=Nat.le_trans hb.size hleM;replace hb:=Gr.trans hb hbn;(replace hW:=(hbn.block _ (blk_lt hW)).trans hW);(replace hOf:=row_below hOf hbn);have hM:=hMn;clear hMn hbn))
 refine hK.out _ _ ?_ (λhHeld=>?_)
 ·(dsimp only)
  (done)
 clear hK K
 (simp only [Act.put,zq1,zq2,zq3,zq4,zq5,zq6])
 refine wpAnyH_ready (rs:=[9]) (by kernel_rfl) (by simp) ?_
 refine AllReadyH.cons rfl (λK hK=>?_) AllReadyH.nil
 ((refine step_make_any (by rfl) _ _ _ (by rfl) sz _ _ hmkT (by rfl) (by rfl) ?_;intro bT wn hTn hleT hbn;(have hMT:bM≠bT:=λe9=>by(have h9:=blk_lt hM;omega));replace hleT:=Nat.le_trans hb.size hleT;replace hb:=Gr.trans hb hbn;(replace hM:=(hbn.block _ (blk_lt hM)).trans hM);(replace hW:=(hbn.block _ (blk_lt hW)).trans hW);(replace hOf:=row_below hOf hbn);have hT:=hTn;clear hTn hbn))
 refine hK.out _ _ ?_ (λhHeld=>?_)
 ·(dsimp only)
  (done)
 clear hK K
 (simp only [Act.put,zq1,zq2,zq3,zq4,zq5,zq6])
 refine wpAnyH_ready (rs:=[10]) (by kernel_rfl) (by simp) ?_
 refine AllReadyH.cons rfl (λK hK=>?_) AllReadyH.nil
 ((rw [if_pos (by kernel_rfl)]);(simp only [zq1,zq2,zq3]);go_big_op)
 refine hK.out _ _ ?_ (λhHeld=>?_)
 ·(dsimp only)
  (done)
 clear hK K
 refine wpAnyH_ready (rs:=[11]) (by kernel_rfl) (by simp) ?_
 refine AllReadyH.cons rfl (λK hK=>?_) AllReadyH.nil
 ((rw [if_pos (by kernel_rfl)]);(simp only [zq1,zq2,zq3]);go_big_op)
 refine hK.out _ _ ?_ (λhHeld=>?_)
 ·(dsimp only)
  (done)
 clear hK K
 refine wpAnyH_ready (rs:=[12]) (by kernel_rfl) (by simp) ?_
 refine AllReadyH.cons rfl (λK hK=>?_) AllReadyH.nil
 ((rw [if_pos (by kernel_rfl)]);(simp only [zq1,zq2,zq3]);go_big_move)
 refine hK.out _ _ ?_ (λhHeld=>?_)
 ·(dsimp only)
  (done)
 clear hK K
 refine wpAnyH_done (by kernel_rfl) ?_ _
 rotate_left
 ((refine step_make_any (by rfl) _ _ _ (by rfl) sz _ _ hmkT (by rfl) (by rfl) ?_;intro bT wn hTn hleT hbn;replace hleT:=Nat.le_trans hb.size hleT;replace hb:=Gr.trans hb hbn;(replace hW:=(hbn.block _ (blk_lt hW)).trans hW);(replace hOf:=row_below hOf hbn);have hT:=hTn;clear hTn hbn))
 refine hK.out _ _ ?_ (λhHeld=>?_)
 ·(dsimp only)
  (done)
 clear hK K
 (simp only [Act.put,zq1,zq2,zq3,zq4,zq5,zq6])
 refine wpAnyH_ready (rs:=[7]) (by kernel_rfl) (by simp) ?_
 refine AllReadyH.cons rfl (λK hK=>?_) AllReadyH.nil
 ((refine step_make_any (by rfl) _ _ _ (by rfl) nt _ _ hmkM (by rfl) (by rfl) ?_;intro bM wn hMn hleM hbn;(have hMT:bM≠bT:=λe9=>by(have h9:=blk_lt hT;omega));replace hleM:=Nat.le_trans hb.size hleM;replace hb:=Gr.trans hb hbn;(replace hT:=(hbn.block _ (blk_lt hT)).trans hT);(replace hW:=(hbn.block _ (blk_lt hW)).trans hW);(replace hOf:=row_below hOf hbn);have hM:=hMn;clear hMn hbn))
 refine hK.out _ _ ?_ (λhHeld=>?_)
 ·(dsimp only)
  (done)
 clear hK K
 (simp only [Act.put,zq1,zq2,zq3,zq4,zq5,zq6])
 refine wpAnyH_ready (rs:=[10]) (by kernel_rfl) (by simp) ?_
 refine AllReadyH.cons rfl (λK hK=>?_) AllReadyH.nil
 ((rw [if_pos (by kernel_rfl)]);(simp only [zq1,zq2,zq3]);go_big_op)
 refine hK.out _ _ ?_ (λhHeld=>?_)
 ·(dsimp only)
  (done)
 clear hK K
 refine wpAnyH_ready (rs:=[11]) (by kernel_rfl) (by simp) ?_
 refine AllReadyH.cons rfl (λK hK=>?_) AllReadyH.nil
 ((rw [if_pos (by kernel_rfl)]);(simp only [zq1,zq2,zq3]);go_big_op)
 refine hK.out _ _ ?_ (λhHeld=>?_)
 ·(dsimp only)
  (done)
 clear hK K
 refine wpAnyH_ready (rs:=[12]) (by kernel_rfl) (by simp) ?_
 refine AllReadyH.cons rfl (λK hK=>?_) AllReadyH.nil
 ((rw [if_pos (by kernel_rfl)]);(simp only [zq1,zq2,zq3]);go_big_move)
 refine hK.out _ _ ?_ (λhHeld=>?_)
 ·(dsimp only)
  (done)
 clear hK K
 refine wpAnyH_done (by kernel_rfl) ?_ _
 rotate_left
 ((refine step_make_any (by rfl) _ _ _ (by rfl) nt _ _ hmkM (by rfl) (by rfl) ?_;intro bM wn hMn hleM hbn;replace hleM:=Nat.le_trans hb.size hleM;replace hb:=Gr.trans hb hbn;(replace hW:=(hbn.block _ (blk_lt hW)).trans hW);have hM:=hMn;clear hMn hbn))
 refine hK.out _ _ ?_ (λhHeld=>?_)
 ·(dsimp only)
  (done)
 clear hK K
 (simp only [Act.put,zq1,zq2,zq3,zq4,zq5,zq6])
 refine wpAnyH_ready (rs:=[5,9]) (by kernel_rfl) (by simp) ?_
 refine AllReadyH.cons rfl (λK hK=>?_) (AllReadyH.cons rfl (λK hK=>?_) (AllReadyH.nil))
 (((rw [if_pos (by kernel_rfl)]);(simp only [zq1,zq2,zq3]);go_big_op;(go_at_call 38;refine(OF.out _ hb _ hW).mono ?_;rintro e wn ⟨wa,wc,rfl,hOn,hbn⟩;replace hb:=Gr.trans hb hbn;(replace hM:=(hbn.block _ (blk_lt hM)).trans hM);(replace hW:=(hbn.block _ (blk_lt hW)).trans hW);have hOf:=hOn;clear hOn hbn)))
 refine hK.out _ _ ?_ (λhHeld=>?_)
 ·(dsimp only)
  (done)
 clear hK K
 refine wpAnyH_ready (rs:=[9]) (by kernel_rfl) (by simp) ?_
 refine AllReadyH.cons rfl (λK hK=>?_) AllReadyH.nil
 ((refine step_make_any (by rfl) _ _ _ (by rfl) sz _ _ hmkT (by rfl) (by rfl) ?_;intro bT wn hTn hleT hbn;(have hMT:bM≠bT:=λe9=>by(have h9:=blk_lt hM;omega));replace hleT:=Nat.le_trans hb.size hleT;replace hb:=Gr.trans hb hbn;(replace hM:=(hbn.block _ (blk_lt hM)).trans hM);(replace hW:=(hbn.block _ (blk_lt hW)).trans hW);(replace hOf:=row_below hOf hbn);have hT:=hTn;clear hTn hbn))
 refine hK.out _ _ ?_ (λhHeld=>?_)
 ·(dsimp only)
  (done)
 clear hK K
 (simp only [Act.put,zq1,zq2,zq3,zq4,zq5,zq6])
 refine wpAnyH_ready (rs:=[10]) (by kernel_rfl) (by simp) ?_
 refine AllReadyH.cons rfl (λK hK=>?_) AllReadyH.nil
 ((rw [if_pos (by kernel_rfl)]);(simp only [zq1,zq2,zq3]);go_big_op)
 refine hK.out _ _ ?_ (λhHeld=>?_)
 ·(dsimp only)
  (done)
 clear hK K
 refine wpAnyH_ready (rs:=[11]) (by kernel_rfl) (by simp) ?_
 refine AllReadyH.cons rfl (λK hK=>?_) AllReadyH.nil
 ((rw [if_pos (by kernel_rfl)]);(simp only [zq1,zq2,zq3]);go_big_op)
 refine hK.out _ _ ?_ (λhHeld=>?_)
 ·(dsimp only)
  (done)
 clear hK K
 refine wpAnyH_ready (rs:=[12]) (by kernel_rfl) (by simp) ?_
 refine AllReadyH.cons rfl (λK hK=>?_) AllReadyH.nil
 ((rw [if_pos (by kernel_rfl)]);(simp only [zq1,zq2,zq3]);go_big_move)
 refine hK.out _ _ ?_ (λhHeld=>?_)
 ·(dsimp only)
  (done)
 clear hK K
 refine wpAnyH_done (by kernel_rfl) ?_ _
 rotate_left
 ((refine step_make_any (by rfl) _ _ _ (by rfl) sz _ _ hmkT (by rfl) (by rfl) ?_;intro bT wn hTn hleT hbn;(have hMT:bM≠bT:=λe9=>by(have h9:=blk_lt hM;omega));replace hleT:=Nat.le_trans hb.size hleT;replace hb:=Gr.trans hb hbn;(replace hM:=(hbn.block _ (blk_lt hM)).trans hM);(replace hW:=(hbn.block _ (blk_lt hW)).trans hW);have hT:=hTn;clear hTn hbn))
 refine hK.out _ _ ?_ (λhHeld=>?_)
 ·(dsimp only)
  (done)
 clear hK K
 (simp only [Act.put,zq1,zq2,zq3,zq4,zq5,zq6])
 refine wpAnyH_ready (rs:=[5]) (by kernel_rfl) (by simp) ?_
 refine AllReadyH.cons rfl (λK hK=>?_) AllReadyH.nil
 (((rw [if_pos (by kernel_rfl)]);(simp only [zq1,zq2,zq3]);go_big_op;(go_at_call 38;refine(OF.out _ hb _ hW).mono ?_;rintro e wn ⟨wa,wc,rfl,hOn,hbn⟩;replace hb:=Gr.trans hb hbn;(replace hM:=(hbn.block _ (blk_lt hM)).trans hM);(replace hT:=(hbn.block _ (blk_lt hT)).trans hT);(replace hW:=(hbn.block _ (blk_lt hW)).trans hW);have hOf:=hOn;clear hOn hbn)))
 refine hK.out _ _ ?_ (λhHeld=>?_)
 ·(dsimp only)
  (done)
 clear hK K
 refine wpAnyH_ready (rs:=[10]) (by kernel_rfl) (by simp) ?_
 refine AllReadyH.cons rfl (λK hK=>?_) AllReadyH.nil
 ((rw [if_pos (by kernel_rfl)]);(simp only [zq1,zq2,zq3]);go_big_op)
 refine hK.out _ _ ?_ (λhHeld=>?_)
 ·(dsimp only)
  (done)
 clear hK K
 refine wpAnyH_ready (rs:=[11]) (by kernel_rfl) (by simp) ?_
 refine AllReadyH.cons rfl (λK hK=>?_) AllReadyH.nil
 ((rw [if_pos (by kernel_rfl)]);(simp only [zq1,zq2,zq3]);go_big_op)
 refine hK.out _ _ ?_ (λhHeld=>?_)
 ·(dsimp only)
  (done)
 clear hK K
 refine wpAnyH_ready (rs:=[12]) (by kernel_rfl) (by simp) ?_
 refine AllReadyH.cons rfl (λK hK=>?_) AllReadyH.nil
 ((rw [if_pos (by kernel_rfl)]);(simp only [zq1,zq2,zq3]);go_big_move)
 refine hK.out _ _ ?_ (λhHeld=>?_)
 ·(dsimp only)
  (done)
 clear hK K
 refine wpAnyH_done (by kernel_rfl) ?_ _
 rotate_left
 ((refine step_make_any (by rfl) _ _ _ (by rfl) sz _ _ hmkT (by rfl) (by rfl) ?_;intro bT wn hTn hleT hbn;replace hleT:=Nat.le_trans hb.size hleT;replace hb:=Gr.trans hb hbn;(replace hW:=(hbn.block _ (blk_lt hW)).trans hW);have hT:=hTn;clear hTn hbn))
 refine hK.out _ _ ?_ (λhHeld=>?_)
 ·(dsimp only)
  (done)
 clear hK K
 (simp only [Act.put,zq1,zq2,zq3,zq4,zq5,zq6])
 refine wpAnyH_ready (rs:=[5,7]) (by kernel_rfl) (by simp) ?_
 refine AllReadyH.cons rfl (λK hK=>?_) (AllReadyH.cons rfl (λK hK=>?_) (AllReadyH.nil))
 (((rw [if_pos (by kernel_rfl)]);(simp only [zq1,zq2,zq3]);go_big_op;(go_at_call 38;refine(OF.out _ hb _ hW).mono ?_;rintro e wn ⟨wa,wc,rfl,hOn,hbn⟩;replace hb:=Gr.trans hb hbn;(replace hT:=(hbn.block _ (blk_lt hT)).trans hT);(replace hW:=(hbn.block _ (blk_lt hW)).trans hW);have hOf:=hOn;clear hOn hbn)))
 refine hK.out _ _ ?_ (λhHeld=>?_)
 ·(dsimp only)
  (done)
 clear hK K
 refine wpAnyH_ready (rs:=[7]) (by kernel_rfl) (by simp) ?_
 refine AllReadyH.cons rfl (λK hK=>?_) AllReadyH.nil
 ((refine step_make_any (by rfl) _ _ _ (by rfl) nt _ _ hmkM (by rfl) (by rfl) ?_;intro bM wn hMn hleM hbn;(have hMT:bM≠bT:=λe9=>by(have h9:=blk_lt hT;omega));replace hleM:=Nat.le_trans hb.size hleM;replace hb:=Gr.trans hb hbn;(replace hT:=(hbn.block _ (blk_lt hT)).trans hT);(replace hW:=(hbn.block _ (blk_lt hW)).trans hW);(replace hOf:=row_below hOf hbn);have hM:=hMn;clear hMn hbn))
 refine hK.out _ _ ?_ (λhHeld=>?_)
 ·(dsimp only)
  (done)
 clear hK K
 (simp only [Act.put,zq1,zq2,zq3,zq4,zq5,zq6])
 refine wpAnyH_ready (rs:=[10]) (by kernel_rfl) (by simp) ?_
 refine AllReadyH.cons rfl (λK hK=>?_) AllReadyH.nil
 ((rw [if_pos (by kernel_rfl)]);(simp only [zq1,zq2,zq3]);go_big_op)
 refine hK.out _ _ ?_ (λhHeld=>?_)
 ·(dsimp only)
  (done)
 clear hK K
 refine wpAnyH_ready (rs:=[11]) (by kernel_rfl) (by simp) ?_
 refine AllReadyH.cons rfl (λK hK=>?_) AllReadyH.nil
 ((rw [if_pos (by kernel_rfl)]);(simp only [zq1,zq2,zq3]);go_big_op)
 refine hK.out _ _ ?_ (λhHeld=>?_)
 ·(dsimp only)
  (done)
 clear hK K
 refine wpAnyH_ready (rs:=[12]) (by kernel_rfl) (by simp) ?_
 refine AllReadyH.cons rfl (λK hK=>?_) AllReadyH.nil
 ((rw [if_pos (by kernel_rfl)]);(simp only [zq1,zq2,zq3]);go_big_move)
 refine hK.out _ _ ?_ (λhHeld=>?_)
 ·(dsimp only)
  (done)
 clear hK K
 refine wpAnyH_done (by kernel_rfl) ?_ _
 rotate_left
 ((refine step_make_any (by rfl) _ _ _ (by rfl) nt _ _ hmkM (by rfl) (by rfl) ?_;intro bM wn hMn hleM hbn;(have hMT:bM≠bT:=λe9=>by(have h9:=blk_lt hT;omega));replace hleM:=Nat.le_trans hb.size hleM;replace hb:=Gr.trans hb hbn;(replace hT:=(hbn.block _ (blk_lt hT)).trans hT);(replace hW:=(hbn.block _ (blk_lt hW)).trans hW);have hM:=hMn;clear hMn hbn))
 refine hK.out _ _ ?_ (λhHeld=>?_)
 ·(dsimp only)
  (done)
 clear hK K
 (simp only [Act.put,zq1,zq2,zq3,zq4,zq5,zq6])
 refine wpAnyH_ready (rs:=[5]) (by kernel_rfl) (by simp) ?_
 refine AllReadyH.cons rfl (λK hK=>?_) AllReadyH.nil
 (((rw [if_pos (by kernel_rfl)]);(simp only [zq1,zq2,zq3]);go_big_op;(go_at_call 38;refine(OF.out _ hb _ hW).mono ?_;rintro e wn ⟨wa,wc,rfl,hOn,hbn⟩;replace hb:=Gr.trans hb hbn;(replace hM:=(hbn.block _ (blk_lt hM)).trans hM);(replace hT:=(hbn.block _ (blk_lt hT)).trans hT);(replace hW:=(hbn.block _ (blk_lt hW)).trans hW);have hOf:=hOn;clear hOn hbn)))
 refine hK.out _ _ ?_ (λhHeld=>?_)
 ·(dsimp only)
  (done)
 clear hK K
 refine wpAnyH_ready (rs:=[10]) (by kernel_rfl) (by simp) ?_
 refine AllReadyH.cons rfl (λK hK=>?_) AllReadyH.nil
 ((rw [if_pos (by kernel_rfl)]);(simp only [zq1,zq2,zq3]);go_big_op)
 refine hK.out _ _ ?_ (λhHeld=>?_)
 ·(dsimp only)
  (done)
 clear hK K
 refine wpAnyH_ready (rs:=[11]) (by kernel_rfl) (by simp) ?_
 refine AllReadyH.cons rfl (λK hK=>?_) AllReadyH.nil
 ((rw [if_pos (by kernel_rfl)]);(simp only [zq1,zq2,zq3]);go_big_op)
 refine hK.out _ _ ?_ (λhHeld=>?_)
 ·(dsimp only)
  (done)
 clear hK K
 refine wpAnyH_ready (rs:=[12]) (by kernel_rfl) (by simp) ?_
 refine AllReadyH.cons rfl (λK hK=>?_) AllReadyH.nil
 ((rw [if_pos (by kernel_rfl)]);(simp only [zq1,zq2,zq3]);go_big_move)
 refine hK.out _ _ ?_ (λhHeld=>?_)
 ·(dsimp only)
  (done)
 clear hK K
 refine wpAnyH_done (by kernel_rfl) ?_ _
 rotate_left
 ((refine step_make_any (by rfl) _ _ _ (by rfl) nt _ _ hmkM (by rfl) (by rfl) ?_;intro bM wn hMn hleM hbn;replace hleM:=Nat.le_trans hb.size hleM;replace hb:=Gr.trans hb hbn;have hM:=hMn;clear hMn hbn))
 refine hK.out _ _ ?_ (λhHeld=>?_)
 ·(dsimp only)
  (done)
 clear hK K
 (simp only [Act.put,zq1,zq2,zq3,zq4,zq5,zq6])
 refine wpAnyH_ready (rs:=[4,9]) (by kernel_rfl) (by simp) ?_
 refine AllReadyH.cons rfl (λK hK=>?_) (AllReadyH.cons rfl (λK hK=>?_) (AllReadyH.nil))
 (((rw [if_pos (by kernel_rfl)]);(simp only [zq1,zq2,zq3]);go_big_op;(go_at_call 39;refine(WD.out _ hb).mono ?_;rintro e wn ⟨bq0,rfl,hWn,hbn⟩;replace hb:=Gr.trans hb hbn;(replace hM:=(hbn.block _ (blk_lt hM)).trans hM);have hW:=hWn;clear hWn hbn)))
 refine hK.out _ _ ?_ (λhHeld=>?_)
 ·(dsimp only)
  (done)
 clear hK K
 refine wpAnyH_ready (rs:=[5,9]) (by kernel_rfl) (by simp) ?_
 refine AllReadyH.cons rfl (λK hK=>?_) (AllReadyH.cons rfl (λK hK=>?_) (AllReadyH.nil))
 (((rw [if_pos (by kernel_rfl)]);(simp only [zq1,zq2,zq3]);go_big_op;(go_at_call 38;refine(OF.out _ hb _ hW).mono ?_;rintro e wn ⟨wa,wc,rfl,hOn,hbn⟩;replace hb:=Gr.trans hb hbn;(replace hM:=(hbn.block _ (blk_lt hM)).trans hM);(replace hW:=(hbn.block _ (blk_lt hW)).trans hW);have hOf:=hOn;clear hOn hbn)))
 refine hK.out _ _ ?_ (λhHeld=>?_)
 ·(dsimp only)
  (done)
 clear hK K
 refine wpAnyH_ready (rs:=[9]) (by kernel_rfl) (by simp) ?_
 refine AllReadyH.cons rfl (λK hK=>?_) AllReadyH.nil
 ((refine step_make_any (by rfl) _ _ _ (by rfl) sz _ _ hmkT (by rfl) (by rfl) ?_;intro bT wn hTn hleT hbn;(have hMT:bM≠bT:=λe9=>by(have h9:=blk_lt hM;omega));replace hleT:=Nat.le_trans hb.size hleT;replace hb:=Gr.trans hb hbn;(replace hM:=(hbn.block _ (blk_lt hM)).trans hM);(replace hW:=(hbn.block _ (blk_lt hW)).trans hW);(replace hOf:=row_below hOf hbn);have hT:=hTn;clear hTn hbn))
 refine hK.out _ _ ?_ (λhHeld=>?_)
 ·(dsimp only)
  (done)
 clear hK K
 (simp only [Act.put,zq1,zq2,zq3,zq4,zq5,zq6])
 refine wpAnyH_ready (rs:=[10]) (by kernel_rfl) (by simp) ?_
 refine AllReadyH.cons rfl (λK hK=>?_) AllReadyH.nil
 ((rw [if_pos (by kernel_rfl)]);(simp only [zq1,zq2,zq3]);go_big_op)
 refine hK.out _ _ ?_ (λhHeld=>?_)
 ·(dsimp only)
  (done)
 clear hK K
 refine wpAnyH_ready (rs:=[11]) (by kernel_rfl) (by simp) ?_
 refine AllReadyH.cons rfl (λK hK=>?_) AllReadyH.nil
 ((rw [if_pos (by kernel_rfl)]);(simp only [zq1,zq2,zq3]);go_big_op)
 refine hK.out _ _ ?_ (λhHeld=>?_)
 ·(dsimp only)
  (done)
 clear hK K
 refine wpAnyH_ready (rs:=[12]) (by kernel_rfl) (by simp) ?_
 refine AllReadyH.cons rfl (λK hK=>?_) AllReadyH.nil
 ((rw [if_pos (by kernel_rfl)]);(simp only [zq1,zq2,zq3]);go_big_move)
 refine hK.out _ _ ?_ (λhHeld=>?_)
 ·(dsimp only)
  (done)
 clear hK K
 refine wpAnyH_done (by kernel_rfl) ?_ _
 rotate_left
 ((refine step_make_any (by rfl) _ _ _ (by rfl) sz _ _ hmkT (by rfl) (by rfl) ?_;intro bT wn hTn hleT hbn;(have hMT:bM≠bT:=λe9=>by(have h9:=blk_lt hM;omega));replace hleT:=Nat.le_trans hb.size hleT;replace hb:=Gr.trans hb hbn;(replace hM:=(hbn.block _ (blk_lt hM)).trans hM);(replace hW:=(hbn.block _ (blk_lt hW)).trans hW);have hT:=hTn;clear hTn hbn))
 refine hK.out _ _ ?_ (λhHeld=>?_)
 ·(dsimp only)
  (done)
 clear hK K
 (simp only [Act.put,zq1,zq2,zq3,zq4,zq5,zq6])
 refine wpAnyH_ready (rs:=[5]) (by kernel_rfl) (by simp) ?_
 refine AllReadyH.cons rfl (λK hK=>?_) AllReadyH.nil
 (((rw [if_pos (by kernel_rfl)]);(simp only [zq1,zq2,zq3]);go_big_op;(go_at_call 38;refine(OF.out _ hb _ hW).mono ?_;rintro e wn ⟨wa,wc,rfl,hOn,hbn⟩;replace hb:=Gr.trans hb hbn;(replace hM:=(hbn.block _ (blk_lt hM)).trans hM);(replace hT:=(hbn.block _ (blk_lt hT)).trans hT);(replace hW:=(hbn.block _ (blk_lt hW)).trans hW);have hOf:=hOn;clear hOn hbn)))
 refine hK.out _ _ ?_ (λhHeld=>?_)
 ·(dsimp only)
  (done)
 clear hK K
 refine wpAnyH_ready (rs:=[10]) (by kernel_rfl) (by simp) ?_
 refine AllReadyH.cons rfl (λK hK=>?_) AllReadyH.nil
 ((rw [if_pos (by kernel_rfl)]);(simp only [zq1,zq2,zq3]);go_big_op)
 refine hK.out _ _ ?_ (λhHeld=>?_)
 ·(dsimp only)
  (done)
 clear hK K
 refine wpAnyH_ready (rs:=[11]) (by kernel_rfl) (by simp) ?_
 refine AllReadyH.cons rfl (λK hK=>?_) AllReadyH.nil
 ((rw [if_pos (by kernel_rfl)]);(simp only [zq1,zq2,zq3]);go_big_op)
 refine hK.out _ _ ?_ (λhHeld=>?_)
 ·(dsimp only)
  (done)
 clear hK K
 refine wpAnyH_ready (rs:=[12]) (by kernel_rfl) (by simp) ?_
 refine AllReadyH.cons rfl (λK hK=>?_) AllReadyH.nil
 ((rw [if_pos (by kernel_rfl)]);(simp only [zq1,zq2,zq3]);go_big_move)
 refine hK.out _ _ ?_ (λhHeld=>?_)
 ·(dsimp only)
  (done)
 clear hK K
 refine wpAnyH_done (by kernel_rfl) ?_ _
 rotate_left
 ((refine step_make_any (by rfl) _ _ _ (by rfl) sz _ _ hmkT (by rfl) (by rfl) ?_;intro bT wn hTn hleT hbn;(have hMT:bM≠bT:=λe9=>by(have h9:=blk_lt hM;omega));replace hleT:=Nat.le_trans hb.size hleT;replace hb:=Gr.trans hb hbn;(replace hM:=(hbn.block _ (blk_lt hM)).trans hM);have hT:=hTn;clear hTn hbn))
 refine hK.out _ _ ?_ (λhHeld=>?_)
 ·(dsimp only)
  (done)
 clear hK K
 (simp only [Act.put,zq1,zq2,zq3,zq4,zq5,zq6])
 refine wpAnyH_ready (rs:=[4]) (by kernel_rfl) (by simp) ?_
 refine AllReadyH.cons rfl (λK hK=>?_) AllReadyH.nil
 (((rw [if_pos (by kernel_rfl)]);(simp only [zq1,zq2,zq3]);go_big_op;(go_at_call 39;refine(WD.out _ hb).mono ?_;rintro e wn ⟨bq0,rfl,hWn,hbn⟩;replace hb:=Gr.trans hb hbn;(replace hM:=(hbn.block _ (blk_lt hM)).trans hM);(replace hT:=(hbn.block _ (blk_lt hT)).trans hT);have hW:=hWn;clear hWn hbn)))
 refine hK.out _ _ ?_ (λhHeld=>?_)
 ·(dsimp only)
  (done)
 clear hK K
 refine wpAnyH_ready (rs:=[5]) (by kernel_rfl) (by simp) ?_
 refine AllReadyH.cons rfl (λK hK=>?_) AllReadyH.nil
 (((rw [if_pos (by kernel_rfl)]);(simp only [zq1,zq2,zq3]);go_big_op;(go_at_call 38;refine(OF.out _ hb _ hW).mono ?_;rintro e wn ⟨wa,wc,rfl,hOn,hbn⟩;replace hb:=Gr.trans hb hbn;(replace hM:=(hbn.block _ (blk_lt hM)).trans hM);(replace hT:=(hbn.block _ (blk_lt hT)).trans hT);(replace hW:=(hbn.block _ (blk_lt hW)).trans hW);have hOf:=hOn;clear hOn hbn)))
 refine hK.out _ _ ?_ (λhHeld=>?_)
 ·(dsimp only)
  (done)
 clear hK K
 refine wpAnyH_ready (rs:=[10]) (by kernel_rfl) (by simp) ?_
 refine AllReadyH.cons rfl (λK hK=>?_) AllReadyH.nil
 ((rw [if_pos (by kernel_rfl)]);(simp only [zq1,zq2,zq3]);go_big_op)
 refine hK.out _ _ ?_ (λhHeld=>?_)
 ·(dsimp only)
  (done)
 clear hK K
 refine wpAnyH_ready (rs:=[11]) (by kernel_rfl) (by simp) ?_
 refine AllReadyH.cons rfl (λK hK=>?_) AllReadyH.nil
 ((rw [if_pos (by kernel_rfl)]);(simp only [zq1,zq2,zq3]);go_big_op)
 refine hK.out _ _ ?_ (λhHeld=>?_)
 ·(dsimp only)
  (done)
 clear hK K
 refine wpAnyH_ready (rs:=[12]) (by kernel_rfl) (by simp) ?_
 refine AllReadyH.cons rfl (λK hK=>?_) AllReadyH.nil
 ((rw [if_pos (by kernel_rfl)]);(simp only [zq1,zq2,zq3]);go_big_move)
 refine hK.out _ _ ?_ (λhHeld=>?_)
 ·(dsimp only)
  (done)
 clear hK K
 refine wpAnyH_done (by kernel_rfl) ?_ _
 rotate_left
 ((refine step_make_any (by rfl) _ _ _ (by rfl) sz _ _ hmkT (by rfl) (by rfl) ?_;intro bT wn hTn hleT hbn;replace hleT:=Nat.le_trans hb.size hleT;replace hb:=Gr.trans hb hbn;have hT:=hTn;clear hTn hbn))
 refine hK.out _ _ ?_ (λhHeld=>?_)
 ·(dsimp only)
  (done)
 clear hK K
 (simp only [Act.put,zq1,zq2,zq3,zq4,zq5,zq6])
 refine wpAnyH_ready (rs:=[4,7]) (by kernel_rfl) (by simp) ?_
 refine AllReadyH.cons rfl (λK hK=>?_) (AllReadyH.cons rfl (λK hK=>?_) (AllReadyH.nil))
 (((rw [if_pos (by kernel_rfl)]);(simp only [zq1,zq2,zq3]);go_big_op;(go_at_call 39;refine(WD.out _ hb).mono ?_;rintro e wn ⟨bq0,rfl,hWn,hbn⟩;replace hb:=Gr.trans hb hbn;(replace hT:=(hbn.block _ (blk_lt hT)).trans hT);have hW:=hWn;clear hWn hbn)))
 refine hK.out _ _ ?_ (λhHeld=>?_)
 ·(dsimp only)
  (done)
 clear hK K
 refine wpAnyH_ready (rs:=[5,7]) (by kernel_rfl) (by simp) ?_
 refine AllReadyH.cons rfl (λK hK=>?_) (AllReadyH.cons rfl (λK hK=>?_) (AllReadyH.nil))
 (((rw [if_pos (by kernel_rfl)]);(simp only [zq1,zq2,zq3]);go_big_op;(go_at_call 38;refine(OF.out _ hb _ hW).mono ?_;rintro e wn ⟨wa,wc,rfl,hOn,hbn⟩;replace hb:=Gr.trans hb hbn;(replace hT:=(hbn.block _ (blk_lt hT)).trans hT);(replace hW:=(hbn.block _ (blk_lt hW)).trans hW);have hOf:=hOn;clear hOn hbn)))
 refine hK.out _ _ ?_ (λhHeld=>?_)
 ·(dsimp only)
  (done)
 clear hK K
 refine wpAnyH_ready (rs:=[7]) (by kernel_rfl) (by simp) ?_
 refine AllReadyH.cons rfl (λK hK=>?_) AllReadyH.nil
 ((refine step_make_any (by rfl) _ _ _ (by rfl) nt _ _ hmkM (by rfl) (by rfl) ?_;intro bM wn hMn hleM hbn;(have hMT:bM≠bT:=λe9=>by(have h9:=blk_lt hT;omega));replace hleM:=Nat.le_trans hb.size hleM;replace hb:=Gr.trans hb hbn;(replace hT:=(hbn.block _ (blk_lt hT)).trans hT);(replace hW:=(hbn.block _ (blk_lt hW)).trans hW);(replace hOf:=row_below hOf hbn);have hM:=hMn;clear hMn hbn))
 refine hK.out _ _ ?_ (λhHeld=>?_)
 ·(dsimp only)
  (done)
 clear hK K
 (simp only [Act.put,zq1,zq2,zq3,zq4,zq5,zq6])
 refine wpAnyH_ready (rs:=[10]) (by kernel_rfl) (by simp) ?_
 refine AllReadyH.cons rfl (λK hK=>?_) AllReadyH.nil
 ((rw [if_pos (by kernel_rfl)]);(simp only [zq1,zq2,zq3]);go_big_op)
 refine hK.out _ _ ?_ (λhHeld=>?_)
 ·(dsimp only)
  (done)
 clear hK K
 refine wpAnyH_ready (rs:=[11]) (by kernel_rfl) (by simp) ?_
 refine AllReadyH.cons rfl (λK hK=>?_) AllReadyH.nil
 ((rw [if_pos (by kernel_rfl)]);(simp only [zq1,zq2,zq3]);go_big_op)
 refine hK.out _ _ ?_ (λhHeld=>?_)
 ·(dsimp only)
  (done)
 clear hK K
 refine wpAnyH_ready (rs:=[12]) (by kernel_rfl) (by simp) ?_
 refine AllReadyH.cons rfl (λK hK=>?_) AllReadyH.nil
 ((rw [if_pos (by kernel_rfl)]);(simp only [zq1,zq2,zq3]);go_big_move)
 refine hK.out _ _ ?_ (λhHeld=>?_)
 ·(dsimp only)
  (done)
 clear hK K
 refine wpAnyH_done (by kernel_rfl) ?_ _
 rotate_left
 ((refine step_make_any (by rfl) _ _ _ (by rfl) nt _ _ hmkM (by rfl) (by rfl) ?_;intro bM wn hMn hleM hbn;(have hMT:bM≠bT:=λe9=>by(have h9:=blk_lt hT;omega));replace hleM:=Nat.le_trans hb.size hleM;replace hb:=Gr.trans hb hbn;(replace hT:=(hbn.block _ (blk_lt hT)).trans hT);(replace hW:=(hbn.block _ (blk_lt hW)).trans hW);have hM:=hMn;clear hMn hbn))
 refine hK.out _ _ ?_ (λhHeld=>?_)
 ·(dsimp only)
  (done)
 clear hK K
 (simp only [Act.put,zq1,zq2,zq3,zq4,zq5,zq6])
 refine wpAnyH_ready (rs:=[5]) (by kernel_rfl) (by simp) ?_
 refine AllReadyH.cons rfl (λK hK=>?_) AllReadyH.nil
 (((rw [if_pos (by kernel_rfl)]);(simp only [zq1,zq2,zq3]);go_big_op;(go_at_call 38;refine(OF.out _ hb _ hW).mono ?_;rintro e wn ⟨wa,wc,rfl,hOn,hbn⟩;replace hb:=Gr.trans hb hbn;(replace hM:=(hbn.block _ (blk_lt hM)).trans hM);(replace hT:=(hbn.block _ (blk_lt hT)).trans hT);(replace hW:=(hbn.block _ (blk_lt hW)).trans hW);have hOf:=hOn;clear hOn hbn)))
 refine hK.out _ _ ?_ (λhHeld=>?_)
 ·(dsimp only)
  (done)
 clear hK K
 refine wpAnyH_ready (rs:=[10]) (by kernel_rfl) (by simp) ?_
 refine AllReadyH.cons rfl (λK hK=>?_) AllReadyH.nil
 ((rw [if_pos (by kernel_rfl)]);(simp only [zq1,zq2,zq3]);go_big_op)
 refine hK.out _ _ ?_ (λhHeld=>?_)
 ·(dsimp only)
  (done)
 clear hK K
 refine wpAnyH_ready (rs:=[11]) (by kernel_rfl) (by simp) ?_
 refine AllReadyH.cons rfl (λK hK=>?_) AllReadyH.nil
 ((rw [if_pos (by kernel_rfl)]);(simp only [zq1,zq2,zq3]);go_big_op)
 refine hK.out _ _ ?_ (λhHeld=>?_)
 ·(dsimp only)
  (done)
 clear hK K
 refine wpAnyH_ready (rs:=[12]) (by kernel_rfl) (by simp) ?_
 refine AllReadyH.cons rfl (λK hK=>?_) AllReadyH.nil
 ((rw [if_pos (by kernel_rfl)]);(simp only [zq1,zq2,zq3]);go_big_move)
 refine hK.out _ _ ?_ (λhHeld=>?_)
 ·(dsimp only)
  (done)
 clear hK K
 refine wpAnyH_done (by kernel_rfl) ?_ _
 rotate_left
 ((refine step_make_any (by rfl) _ _ _ (by rfl) nt _ _ hmkM (by rfl) (by rfl) ?_;intro bM wn hMn hleM hbn;(have hMT:bM≠bT:=λe9=>by(have h9:=blk_lt hT;omega));replace hleM:=Nat.le_trans hb.size hleM;replace hb:=Gr.trans hb hbn;(replace hT:=(hbn.block _ (blk_lt hT)).trans hT);have hM:=hMn;clear hMn hbn))
 refine hK.out _ _ ?_ (λhHeld=>?_)
 ·(dsimp only)
  (done)
 clear hK K
 (simp only [Act.put,zq1,zq2,zq3,zq4,zq5,zq6])
 refine wpAnyH_ready (rs:=[4]) (by kernel_rfl) (by simp) ?_
 refine AllReadyH.cons rfl (λK hK=>?_) AllReadyH.nil
 (((rw [if_pos (by kernel_rfl)]);(simp only [zq1,zq2,zq3]);go_big_op;(go_at_call 39;refine(WD.out _ hb).mono ?_;rintro e wn ⟨bq0,rfl,hWn,hbn⟩;replace hb:=Gr.trans hb hbn;(replace hM:=(hbn.block _ (blk_lt hM)).trans hM);(replace hT:=(hbn.block _ (blk_lt hT)).trans hT);have hW:=hWn;clear hWn hbn)))
 refine hK.out _ _ ?_ (λhHeld=>?_)
 ·(dsimp only)
  (done)
 clear hK K
 refine wpAnyH_ready (rs:=[5]) (by kernel_rfl) (by simp) ?_
 refine AllReadyH.cons rfl (λK hK=>?_) AllReadyH.nil
 (((rw [if_pos (by kernel_rfl)]);(simp only [zq1,zq2,zq3]);go_big_op;(go_at_call 38;refine(OF.out _ hb _ hW).mono ?_;rintro e wn ⟨wa,wc,rfl,hOn,hbn⟩;replace hb:=Gr.trans hb hbn;(replace hM:=(hbn.block _ (blk_lt hM)).trans hM);(replace hT:=(hbn.block _ (blk_lt hT)).trans hT);(replace hW:=(hbn.block _ (blk_lt hW)).trans hW);have hOf:=hOn;clear hOn hbn)))
 refine hK.out _ _ ?_ (λhHeld=>?_)
 ·(dsimp only)
  (done)
 clear hK K
 refine wpAnyH_ready (rs:=[10]) (by kernel_rfl) (by simp) ?_
 refine AllReadyH.cons rfl (λK hK=>?_) AllReadyH.nil
 ((rw [if_pos (by kernel_rfl)]);(simp only [zq1,zq2,zq3]);go_big_op)
 refine hK.out _ _ ?_ (λhHeld=>?_)
 ·(dsimp only)
  (done)
 clear hK K
 refine wpAnyH_ready (rs:=[11]) (by kernel_rfl) (by simp) ?_
 refine AllReadyH.cons rfl (λK hK=>?_) AllReadyH.nil
 ((rw [if_pos (by kernel_rfl)]);(simp only [zq1,zq2,zq3]);go_big_op)
 refine hK.out _ _ ?_ (λhHeld=>?_)
 ·(dsimp only)
  (done)
 clear hK K
 refine wpAnyH_ready (rs:=[12]) (by kernel_rfl) (by simp) ?_
 refine AllReadyH.cons rfl (λK hK=>?_) AllReadyH.nil
 ((rw [if_pos (by kernel_rfl)]);(simp only [zq1,zq2,zq3]);go_big_move)
 refine hK.out _ _ ?_ (λhHeld=>?_)
 ·(dsimp only)
  (done)
 clear hK K
 refine wpAnyH_done (by kernel_rfl) ?_ _
 all_goals
  have hg9:=Gr.new wn (.cells #[.slice wa sz wc,.int .i64 0,.int .i64 0,.int .i64 0,.int .i64 0,.int .i64 0,.int .i64 0,.slice (some ⟨bM,0,none⟩) nt nt,.slice (some ⟨bT,0,none⟩) sz sz,.slice none 0 0] 93)
  exact HK.out _ _ _ _ _ _ _ _ _ _ _ _ _ _ ⟨bM,bT,wa,wc,Gr.trans hb hg9,heap_alloc_new _ _,(hg9.block _ (blk_lt hM)).trans hM,(hg9.block _ (blk_lt hT)).trans hT,row_below hOf hg9,hb.size,hleM,hleT,hMT⟩
end Go.Proofs.YtfkokppncipgnaaGreat
