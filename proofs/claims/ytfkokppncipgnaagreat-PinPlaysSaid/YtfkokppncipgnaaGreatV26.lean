/- A reference's play: the regions of roundelayplain.Log that draw their order. -/
import Derived.Test.YtfkokppncipgnaaGreatV24
import Derived.Test.YtfkokppncipgnaaGreatV25
set_option maxRecDepth 100000
set_option linter.unusedVariables false
set_option linter.unusedSimpArgs false
set_option linter.unnecessarySimpa false
namespace Go.Proofs.YtfkokppncipgnaaGreat
open List renaming getElem_toArray → zq1, getElem_cons_zero → zq2, getElem_cons_succ → zq3, setIfInBounds_toArray → zq4, set_cons_zero → zq5, set_cons_succ → zq6
open Go.RowKit
theorem LogA.finSl {w0 w:World} {J:RJ} {s:RefS} {hl:List Value} {vs:List HV} {L:Value} {ea:Option Addr} {ec:Nat} {ers:List (Value×Value)} (h:LogA w0 w J s hl vs L ea ec ers) (hn:J.nc<=1000000):SlAt w (some ⟨J.bF,0,none⟩) J.nc 1 (boolG s.fin):=by
 refine⟨by unfold maxLen;omega,λj hj=>⟨J.bF,0,rfl,blk_lt h.rest.fin,λf hf=>?_⟩⟩
 obtain rfl:f=0:=by omega
 have hjl:j<s.fin.length:=by rw [h.rest.flen];exact hj
 rw [cell_blk h.rest.fin]
 simp [boolG,List.getD_eq_getElem?_getD,hjl]
theorem rpicks_snoc (dO:CallD->TapeP->RWD->TapeP×RWD) (calls:List CallD) (s:RefS) (picks:List Int) {k:Nat} (hk:k<picks.length):rpicks dO calls s (picks.take (k+1))=rpick dO calls (rpicks dO calls s (picks.take k)) (picks.getD k 0):=by
 unfold rpicks
 rw [List.take_add_one,List.foldl_append]
 simp [List.getD_eq_getElem?_getD,hk]
theorem ropen_nowidle (s:RefS) (p i:Nat):(ropen s p i).rw.now=s.rw.now/\(ropen s p i).idle=s.idle:=by
 unfold ropen
 split<;>exact⟨rfl,rfl⟩
theorem rpicks_count {dO:CallD->TapeP->RWD->TapeP×RWD} (D:DoB dO) (calls:List CallD):∀(picks:List Int) (s:RefS),(rpicks dO calls s picks).rw.now+(rpicks dO calls s picks).idle=s.rw.now+s.idle+picks.length
 | [],s=>rfl
 | p::ps,s=>by
  have h1:(rpick dO calls s p).rw.now+(rpick dO calls s p).idle=s.rw.now+s.idle+1:=by
   unfold rpick
   split
   ·rfl
   ·rename_i i _
    have hrd:∀ c t r,(rdo dO c t r).2.now=r.now:=λc t r=>by
     unfold rdo
     split
     ·rfl
     ·exact(D.runs _ _ _).now
    have h2:=ropen_nowidle { s with rw:=s.rw.tick } p.toNat i
    unfold rgo
    have h3:({ s with rw:=s.rw.tick }:RefS).rw.now=s.rw.now+1:=rfl
    have h4:({ s with rw:=s.rw.tick }:RefS).idle=s.idle:=rfl
    split
    ·simp only [hrd];omega
    ·simp only [hrd];omega
  have:=rpicks_count D calls ps (rpick dO calls s p)
  show(rpicks dO calls (rpick dO calls s p) ps).rw.now+(rpicks dO calls (rpick dO calls s p) ps).idle=_
  rw [this,h1];simp only [List.length_cons];omega
def specV (kd P Q:Int):Value:=.agg #[.int .i64 kd,.int .i64 P,.int .i64 Q]
def DoC (kd P Q:Int) (n:Nat) (Pre:CallD->TapeP->RWD->Prop) (dO:CallD->TapeP->RWD->TapeP×RWD):Prop:=
 ∀(B:RBase) (u:World) (c:CallD) (t:TapeP) (r:RWD),CallOk c->c.obj=0->Pre c t r->RAt B u t r->Calls Tryz.prog 56 #[.pointer (some ⟨B.I.tb,B.I.pre.length,none⟩),.int .i64 (n:Int),.int .i64 0,specV kd P Q,callW c] u λe u'=>e=.returned (.tuple #[])/\∃ t',RAt B u' t' (dO c t r).2/\DoEq c t t' (dO c t r).1
def LateC (kd P Q:Int) (n:Nat) (late:CallD->Nat->RHand->RWD->List Int):Prop:=
 ∀(B:RBase) (u:World) (c:CallD) (t:TapeP) (r:RWD) (h:RHand),CallOk c->c.obj=0->t.thread<n->t.inv=h.inv->t.got=h.got->t.ticks=h.ticks->r.marks.length=n->RAt B u t r->Calls Tryz.prog 44 #[.pointer (some ⟨B.I.tb,B.I.pre.length,none⟩),.int .i64 (n:Int),.int .i64 0,specV kd P Q,callW c] u λe u'=>∃ v t',e=.returned v/\RAtL B u' t' r v (late c t.thread h r)/\t'.thread=t.thread/\t'.inv=t.inv/\t'.got=t.got/\t'.ticks=t.ticks
def loopsOf:Code->List Code
 | .loop c=>[c]
 | .seq a b=>loopsOf a++loopsOf b
 | .block _ c=>loopsOf c
 | .scope c=>loopsOf c
 | .cond _ a b=>loopsOf a++loopsOf b
 | _=>[]
def regionOf (n:Nat):Code->Option Code
 | .region m ops b=>if m=n then some (.region m ops b) else none
 | .loop c=>regionOf n c
 | .seq a b=>match regionOf n a with|some c=>some c|none=>regionOf n b
 | .block _ c=>regionOf n c
 | .scope c=>regionOf n c
 | .cond _ a b=>match regionOf n a with|some c=>some c|none=>regionOf n b
 | _=>none
noncomputable def logBody2:Code:=(Tryz.f22.body.map λc=>(loopsOf c).getD 1 .skip).getD .skip
noncomputable def logBody3:Code:=(Tryz.f22.body.map λc=>(loopsOf c).getD 2 .skip).getD .skip
noncomputable def logReg (n:Nat):Code:=(Tryz.f22.body.bind (regionOf n)).getD .skip
def callCs (th ob kn:Int) (xa xb xc:Nat):Array Value:=#[.int .i64 th,.int .i64 ob,.int .i64 kn,.int .u64 (xa:Int),.int .u64 (xb:Int),.int .u64 (xc:Int)]
set_option maxHeartbeats 4000000 in
theorem log_r26 {w2 w:World} {J:RJ} {s:RefS} {hl:List Value} {vs:List HV} {L:Value} {ea:Option Addr} {ec:Nat} {ers:List (Value×Value)} {bC:Nat} {cC:Array Value} {bp op np pc k q:Nat} {x0 x1 x2 x4 x5 x6 x7 x8 x9 x10 x11 x12 x13 x14 x16 x17 x18 x21 x23 x24 x25 x26 x27 x28 x29 x30 x31 x32 x33 x34 x35 x36 x37 x38 x39 x40 x41 x42 x43 x44 x45 x46 x47 x48 x49 x50 x51 x52 x53 x54 x55 x56 x57 x58 x59 x60 x61 x62 x63 x64 x65 x66 x67 x68 x69 x70 x71 x72 x73 x74 x75 x76 x77 x78 x79 x80 x81 x82 x83 x84 x85 x86 x87 x88 x89 x90 x91 x92 x93 x94 x95 x96 x97 x98 x99 x100 x101 x102 x103 x104 x105 x106 x107 x108 x109 x110 x111 x112 x113 x114 x115 x116 x117 x118 x119 x120 x121 x122 x123 x124 x125 x126 x127 x128 x129 x130 x131 x132 x133 x134 x135 x136 x137 x138 x139 x140 x141 x142 x143 x144 x145 x146 x147 x148 x149 x150 x151 x152 x153 x154 x155 x156 x157 x158 x159 x160 x161 x162 x163 x164 x165 x166 x167 x168 x169 x170 x171 x172 x173 x174 x175 x176 x177 x178 x179 x180 x181 x182 x183 x184 x185 x186 x187 x188 x189 x190 x191 x192 x193 x194 x195 x196 x197 x198 x199 x200 x201 x202 x203 x204 x205 x206 x207 x208 x209 x210 x211 x212 x213 x214 x215 x216 x217 x218 x219 x220 x221 x222 x223 x224 x225 x226 x227 x228 x229 x230 x231 x232 x233 x234 x235 x236 x237 x238 x239 x240 x241 x242 x243 x244 x245 x246 x247 x248 x249 x250 x251 x252 x253 x254 x255 x256 x257 x258 x259 x260 x261 x262 x263 x264 x265 x266 x267 x268 x269 x270 x271 x272 x273 x274 x275 x276 x277:Value} {K:Act->World->Prop} {Q0:Exit->Act->World->Prop} {cd:Code} (hcd:cd=logReg 26) (hQp:∀ c d v (a:Act) {w},Q0 (.panic c) (a.put d v) w->Q0 (.panic c) a w) (hA:LogA w2 w J s hl vs L ea ec ers) (hq:q<J.nt) (hn:J.nt<=16) (p3:w.cell? ⟨bp,op+k,none⟩=some (.int .i64 (q:Int))) (lk:k<np) (hC:w.heap[bC]?=some (.cells cC 48 (0,0)))
  (hK:∀(y117 y118 y119 y120 y121 y122 y123 y124 y125 y126:Value) (w':World),w'.heap[bC]?=some (.cells cC 48 (0,0))/\(∃ hl4 vs4,LogA w2 w' J { s with rw:=s.rw.begin q,hands:=s.hands.set q ⟨true,s.evs.length,s.rw.now,[],[],(s.hands.getD q rh0).own⟩ } hl4 vs4 L ea ec ers)->K ⟨#[x0,x1,x2,.slice (some ⟨bp,op,none⟩) np pc,x4,x5,x6,x7,x8,x9,x10,x11,x12,x13,x14,.pointer (some ⟨J.bW,0,none⟩),x16,x17,x18,.pointer (some ⟨J.bO,0,none⟩),.int .i64 (k:Int),x21,.pointer (some ⟨J.bH,q*16,none⟩),x23,x24,x25,x26,x27,x28,x29,x30,x31,x32,x33,x34,x35,x36,x37,x38,x39,x40,x41,x42,x43,x44,x45,x46,x47,x48,x49,x50,x51,x52,x53,x54,x55,x56,x57,x58,x59,x60,x61,x62,x63,x64,x65,x66,x67,x68,x69,x70,x71,x72,x73,x74,x75,x76,x77,x78,x79,x80,x81,x82,x83,x84,x85,x86,x87,x88,x89,x90,x91,x92,x93,x94,x95,x96,x97,x98,x99,x100,x101,x102,x103,x104,x105,x106,x107,x108,x109,x110,x111,x112,x113,x114,x115,x116,y117,y118,y119,y120,y121,y122,y123,y124,y125,y126,x127,x128,x129,x130,x131,x132,x133,x134,x135,x136,x137,x138,x139,x140,x141,x142,x143,x144,x145,x146,x147,x148,x149,x150,x151,x152,x153,x154,x155,x156,x157,x158,x159,x160,x161,x162,x163,x164,x165,x166,x167,x168,x169,x170,x171,x172,x173,x174,x175,x176,x177,x178,x179,x180,x181,x182,x183,x184,x185,x186,x187,x188,x189,x190,x191,x192,x193,x194,x195,x196,x197,x198,x199,x200,x201,x202,x203,x204,x205,x206,x207,x208,x209,x210,x211,x212,x213,x214,x215,x216,x217,x218,x219,x220,x221,x222,x223,x224,x225,x226,x227,x228,x229,x230,x231,x232,x233,x234,x235,x236,x237,x238,x239,x240,x241,x242,x243,x244,x245,x246,x247,x248,x249,x250,x251,x252,x253,x254,x255,x256,x257,x258,x259,x260,x261,x262,x263,x264,x265,x266,x267,x268,x269,x270,x271,x272,x273,x274,x275,x276,x277],[]⟩ w'):Code.wp Tryz.prog cd (Exit.then K Q0) ⟨#[x0,x1,x2,.slice (some ⟨bp,op,none⟩) np pc,x4,x5,x6,x7,x8,x9,x10,x11,x12,x13,x14,.pointer (some ⟨J.bW,0,none⟩),x16,x17,x18,.pointer (some ⟨J.bO,0,none⟩),.int .i64 (k:Int),x21,.pointer (some ⟨J.bH,q*16,none⟩),x23,x24,x25,x26,x27,x28,x29,x30,x31,x32,x33,x34,x35,x36,x37,x38,x39,x40,x41,x42,x43,x44,x45,x46,x47,x48,x49,x50,x51,x52,x53,x54,x55,x56,x57,x58,x59,x60,x61,x62,x63,x64,x65,x66,x67,x68,x69,x70,x71,x72,x73,x74,x75,x76,x77,x78,x79,x80,x81,x82,x83,x84,x85,x86,x87,x88,x89,x90,x91,x92,x93,x94,x95,x96,x97,x98,x99,x100,x101,x102,x103,x104,x105,x106,x107,x108,x109,x110,x111,x112,x113,x114,x115,x116,x117,x118,x119,x120,x121,x122,x123,x124,x125,x126,x127,x128,x129,x130,x131,x132,x133,x134,x135,x136,x137,x138,x139,x140,x141,x142,x143,x144,x145,x146,x147,x148,x149,x150,x151,x152,x153,x154,x155,x156,x157,x158,x159,x160,x161,x162,x163,x164,x165,x166,x167,x168,x169,x170,x171,x172,x173,x174,x175,x176,x177,x178,x179,x180,x181,x182,x183,x184,x185,x186,x187,x188,x189,x190,x191,x192,x193,x194,x195,x196,x197,x198,x199,x200,x201,x202,x203,x204,x205,x206,x207,x208,x209,x210,x211,x212,x213,x214,x215,x216,x217,x218,x219,x220,x221,x222,x223,x224,x225,x226,x227,x228,x229,x230,x231,x232,x233,x234,x235,x236,x237,x238,x239,x240,x241,x242,x243,x244,x245,x246,x247,x248,x249,x250,x251,x252,x253,x254,x255,x256,x257,x258,x259,x260,x261,x262,x263,x264,x265,x266,x267,x268,x269,x270,x271,x272,x273,x274,x275,x276,x277],[]⟩ w:=by
 subst hcd
 have HQp:=Lib.hid hQp;have HK:=Lib.hid hK
 clear hQp hK
 have BG:=Lib.hid (begin_r (p:=q) (hA.grown (Gr.refl _).drew) hq hn s.evs.length)
 rw [Nat.mul_comm 16 q] at BG
 have o3:w.cell? ⟨J.bO,0,none⟩=some (.slice ea s.evs.length ec):=by rw [cell_blk hA.rest.out];rfl
 have hbCl:bC<w.heap.size:=blk_lt hC
 have hCm:bC≠J.bH/\bC≠J.bM:=⟨λe=>by obtain⟨_,h9⟩:=hA.ty.H;exact blk_ne9 hC h9 (by decide) e,λe=>by obtain⟨_,h9⟩:=hA.ty.M;exact blk_ne9 hC h9 (by decide) e⟩
 have l1:(k:Int)<(np:Int):=by omega
 have l2:¬ (k:Int)<0:=by omega
 have HC:=Lib.hid hC
 clear hA hC
 conv=>arg 2;whnf
 refine wp_region_L ((λu=>u.cell? ⟨bp,op+k,none⟩=some (.int .i64 (q:Int))/\u.cell? ⟨J.bO,0,none⟩=some (.slice ea s.evs.length ec))) 9 (by kernel_rfl) ?hS0L1 ?_
 case hS0L1=>
  exact⟨p3,o3⟩
 intro hS hcl
 refine wpAnyL_take (i:=0) (v:=?tv0L1) 10 rfl (by kernel_rfl) (by kernel_rfl) (by kernel_rfl) (by kernel_rfl) (by kernel_rfl) hcl (by exact λ_ _ _ h=>HQp.out _ _ _ _ h) (Or.inl ⟨by rfl,?th0L1⟩) hS ?tr0L1
 (case th0L1=>(intro w hSw;go_simp;with_reducible rfl))
 clear hcl;intro hcl
 (simp only [Act.put,zq1,zq2,zq3,zq4,zq5,zq6])
 refine wpAnyL_take (i:=1) (v:=?tv1L1) 10 rfl (by kernel_rfl) (by kernel_rfl) (by kernel_rfl) (by kernel_rfl) (by kernel_rfl) hcl (by exact λ_ _ _ h=>HQp.out _ _ _ _ h) (Or.inl ⟨by rfl,?th1L1⟩) hS ?tr1L1
 (case th1L1=>(intro w hSw;go_simp;with_reducible rfl))
 clear hcl;intro hcl
 (simp only [Act.put,zq1,zq2,zq3,zq4,zq5,zq6])
 refine wpAnyL_take (i:=2) (v:=?tv2L1) 10 rfl (by kernel_rfl) (by kernel_rfl) (by kernel_rfl) (by kernel_rfl) (by kernel_rfl) hcl (by exact λ_ _ _ h=>HQp.out _ _ _ _ h) (Or.inl ⟨by rfl,?th2L1⟩) hS ?tr2L1
 (case th2L1=>(intro w hSw;go_simp;with_reducible rfl))
 clear hcl;intro hcl
 (simp only [Act.put,zq1,zq2,zq3,zq4,zq5,zq6])
 refine wpAnyL_take (i:=3) (v:=?tv3L1) 10 rfl (by kernel_rfl) (by kernel_rfl) (by kernel_rfl) (by kernel_rfl) (by kernel_rfl) hcl (by exact λ_ _ _ h=>HQp.out _ _ _ _ h) (Or.inl ⟨by rfl,?th3L1⟩) hS ?tr3L1
 (case th3L1=>(intro w hSw;go_simp;with_reducible rfl))
 clear hcl;intro hcl
 (simp only [Act.put,zq1,zq2,zq3,zq4,zq5,zq6])
 refine wpAnyL_take (i:=4) (v:=?tv4L1) 10 rfl (by kernel_rfl) (by kernel_rfl) (by kernel_rfl) (by kernel_rfl) (by kernel_rfl) hcl (by exact λ_ _ _ h=>HQp.out _ _ _ _ h) (Or.inl ⟨by rfl,?th4L1⟩) hS ?tr4L1
 (case th4L1=>(intro w hSw;go_simp;with_reducible rfl))
 clear hcl;intro hcl
 (simp only [Act.put,zq1,zq2,zq3,zq4,zq5,zq6])
 refine wpAnyL_take (i:=5) (v:=?tv5L1) 10 rfl (by kernel_rfl) (by kernel_rfl) (by kernel_rfl) (by kernel_rfl) (by kernel_rfl) hcl (by exact λ_ _ _ h=>HQp.out _ _ _ _ h) (Or.inl ⟨by rfl,?th5L1⟩) hS ?tr5L1
 (case th5L1=>(intro w hSw;go_simp;with_reducible rfl))
 clear hcl;intro hcl
 (simp only [Act.put,zq1,zq2,zq3,zq4,zq5,zq6])
 refine wpAnyL_take (i:=6) (v:=?tv6L1) 10 rfl (by kernel_rfl) (by kernel_rfl) (by kernel_rfl) (by kernel_rfl) (by kernel_rfl) hcl (by exact λ_ _ _ h=>HQp.out _ _ _ _ h) (Or.inl ⟨by rfl,?th6L1⟩) hS ?tr6L1
 (case th6L1=>(intro w hSw;go_simp;with_reducible rfl))
 clear hcl;intro hcl
 (simp only [Act.put,zq1,zq2,zq3,zq4,zq5,zq6])
 refine wpAnyL_take (i:=7) (v:=?tv7L1) 10 rfl (by kernel_rfl) (by kernel_rfl) (by kernel_rfl) (by kernel_rfl) (by kernel_rfl) hcl (by exact λ_ _ _ h=>HQp.out _ _ _ _ h) (Or.inl ⟨by rfl,?th7L1⟩) hS ?tr7L1
 (case th7L1=>(intro w hSw;go_simp;with_reducible rfl))
 clear hcl;intro hcl
 (simp only [Act.put,zq1,zq2,zq3,zq4,zq5,zq6])
 refine wpAnyL_take (i:=8) (v:=?tv8L1) 10 rfl (by kernel_rfl) (by kernel_rfl) (by kernel_rfl) (by kernel_rfl) (by kernel_rfl) hcl (by exact λ_ _ _ h=>HQp.out _ _ _ _ h) (Or.inl ⟨by rfl,?th8L1⟩) hS ?tr8L1
 (case th8L1=>(intro w hSw;go_simp;with_reducible rfl))
 clear hcl;intro hcl
 (simp only [Act.put,zq1,zq2,zq3,zq4,zq5,zq6])
 refine wpAnyL_one (i:=9) (by kernel_rfl) rfl hcl (λK' hK=>?_)
 have HK:=Lib.hid hK;clear hK
 ((rw [if_pos (by kernel_rfl)]);(simp only [zq1,zq2,zq3]);go_big_op)
 (go_at_call 41;refine BG.out.mono ?_;rintro e w4 ⟨rfl,hc4,hl4,vs4,hA4⟩)
 refine HK.out _ _ (λh=>by cases h.symm.trans (by kernel_rfl:_=true)) (λ_=>wpAnyL_done (by kernel_rfl) ?_ _)
 clear HK
 (clear hS)
 have hC4:w4.heap[bC]?=_:=(hc4.block bC hbCl (λe=>by rcases e with e|e;exact hCm.1 e;exact hCm.2 e)).trans HC.out
 exact HK.out _ _ _ _ _ _ _ _ _ _ _ ⟨hC4,hl4,vs4,hA4⟩
set_option maxHeartbeats 4000000 in
theorem log_r27 {w2 w:World} {J:RJ} {s:RefS} {hl:List Value} {vs:List HV} {L:Value} {ea:Option Addr} {ec:Nat} {ers:List (Value×Value)} {bC:Nat} {cC:Array Value} {i:Nat} {x0 x1 x2 x3 x4 x5 x6 x7 x8 x9 x10 x11 x12 x13 x14 x16 x17 x18 x20 x22 x23 x24 x25 x26 x27 x28 x29 x30 x31 x32 x33 x34 x35 x36 x37 x38 x39 x40 x41 x42 x43 x44 x45 x46 x47 x48 x49 x50 x51 x52 x53 x54 x55 x56 x57 x58 x59 x60 x61 x62 x63 x64 x65 x66 x67 x68 x69 x70 x71 x72 x73 x74 x75 x76 x77 x78 x79 x80 x81 x82 x83 x84 x85 x86 x87 x88 x89 x90 x91 x92 x93 x94 x95 x96 x97 x98 x99 x100 x101 x102 x103 x104 x105 x106 x107 x108 x109 x110 x111 x112 x113 x114 x115 x116 x117 x118 x119 x120 x121 x122 x123 x124 x125 x126 x127 x128 x129 x130 x131 x132 x133 x134 x135 x136 x137 x138 x139 x140 x141 x142 x143 x144 x145 x146 x147 x148 x149 x150 x151 x152 x153 x154 x155 x156 x157 x158 x159 x160 x161 x162 x163 x164 x165 x166 x167 x168 x169 x170 x171 x172 x173 x174 x175 x176 x177 x178 x179 x180 x181 x182 x183 x184 x185 x186 x187 x188 x189 x190 x191 x192 x193 x194 x195 x196 x197 x198 x199 x200 x201 x202 x203 x204 x205 x206 x207 x208 x209 x210 x211 x212 x213 x214 x215 x216 x217 x218 x219 x220 x221 x222 x223 x224 x225 x226 x227 x228 x229 x230 x231 x232 x233 x234 x235 x236 x237 x238 x239 x240 x241 x242 x243 x244 x245 x246 x247 x248 x249 x250 x251 x252 x253 x254 x255 x256 x257 x258 x259 x260 x261 x262 x263 x264 x265 x266 x267 x268 x269 x270 x271 x272 x273 x274 x275 x276 x277:Value} {K:Act->World->Prop} {Q0:Exit->Act->World->Prop} {cd:Code} (hcd:cd=logReg 27) (hQp:∀ c d v (a:Act) {w},Q0 (.panic c) (a.put d v) w->Q0 (.panic c) a w) (hA:LogA w2 w J s hl vs L ea ec ers) (hel:s.evs.length<=1000000) (hC:w.heap[bC]?=some (.cells cC 48 (0,0)))
  (hK:∀(y127 y128 y129 y130 y131 y132 y133 y134 y135 y136 y137:Value) (w':World),w'.heap[bC]?=some (.cells cC 48 (0,0))/\(∃ ea' ec' ers',LogA w2 w' J { s with evs:=s.evs++[⟨i,s.rw.now,0,0,ans0,[]⟩] } hl vs L ea' ec' ers')->K ⟨#[x0,x1,x2,x3,x4,x5,x6,x7,x8,x9,x10,x11,x12,x13,x14,.pointer (some ⟨J.bW,0,none⟩),x16,x17,x18,.pointer (some ⟨J.bO,0,none⟩),x20,.int .i64 (i:Int),x22,x23,x24,x25,x26,x27,x28,x29,x30,x31,x32,x33,x34,x35,x36,x37,x38,x39,x40,x41,x42,x43,x44,x45,x46,x47,x48,x49,x50,x51,x52,x53,x54,x55,x56,x57,x58,x59,x60,x61,x62,x63,x64,x65,x66,x67,x68,x69,x70,x71,x72,x73,x74,x75,x76,x77,x78,x79,x80,x81,x82,x83,x84,x85,x86,x87,x88,x89,x90,x91,x92,x93,x94,x95,x96,x97,x98,x99,x100,x101,x102,x103,x104,x105,x106,x107,x108,x109,x110,x111,x112,x113,x114,x115,x116,x117,x118,x119,x120,x121,x122,x123,x124,x125,x126,y127,y128,y129,y130,y131,y132,y133,y134,y135,y136,y137,x138,x139,x140,x141,x142,x143,x144,x145,x146,x147,x148,x149,x150,x151,x152,x153,x154,x155,x156,x157,x158,x159,x160,x161,x162,x163,x164,x165,x166,x167,x168,x169,x170,x171,x172,x173,x174,x175,x176,x177,x178,x179,x180,x181,x182,x183,x184,x185,x186,x187,x188,x189,x190,x191,x192,x193,x194,x195,x196,x197,x198,x199,x200,x201,x202,x203,x204,x205,x206,x207,x208,x209,x210,x211,x212,x213,x214,x215,x216,x217,x218,x219,x220,x221,x222,x223,x224,x225,x226,x227,x228,x229,x230,x231,x232,x233,x234,x235,x236,x237,x238,x239,x240,x241,x242,x243,x244,x245,x246,x247,x248,x249,x250,x251,x252,x253,x254,x255,x256,x257,x258,x259,x260,x261,x262,x263,x264,x265,x266,x267,x268,x269,x270,x271,x272,x273,x274,x275,x276,x277],[]⟩ w'):Code.wp Tryz.prog cd (Exit.then K Q0) ⟨#[x0,x1,x2,x3,x4,x5,x6,x7,x8,x9,x10,x11,x12,x13,x14,.pointer (some ⟨J.bW,0,none⟩),x16,x17,x18,.pointer (some ⟨J.bO,0,none⟩),x20,.int .i64 (i:Int),x22,x23,x24,x25,x26,x27,x28,x29,x30,x31,x32,x33,x34,x35,x36,x37,x38,x39,x40,x41,x42,x43,x44,x45,x46,x47,x48,x49,x50,x51,x52,x53,x54,x55,x56,x57,x58,x59,x60,x61,x62,x63,x64,x65,x66,x67,x68,x69,x70,x71,x72,x73,x74,x75,x76,x77,x78,x79,x80,x81,x82,x83,x84,x85,x86,x87,x88,x89,x90,x91,x92,x93,x94,x95,x96,x97,x98,x99,x100,x101,x102,x103,x104,x105,x106,x107,x108,x109,x110,x111,x112,x113,x114,x115,x116,x117,x118,x119,x120,x121,x122,x123,x124,x125,x126,x127,x128,x129,x130,x131,x132,x133,x134,x135,x136,x137,x138,x139,x140,x141,x142,x143,x144,x145,x146,x147,x148,x149,x150,x151,x152,x153,x154,x155,x156,x157,x158,x159,x160,x161,x162,x163,x164,x165,x166,x167,x168,x169,x170,x171,x172,x173,x174,x175,x176,x177,x178,x179,x180,x181,x182,x183,x184,x185,x186,x187,x188,x189,x190,x191,x192,x193,x194,x195,x196,x197,x198,x199,x200,x201,x202,x203,x204,x205,x206,x207,x208,x209,x210,x211,x212,x213,x214,x215,x216,x217,x218,x219,x220,x221,x222,x223,x224,x225,x226,x227,x228,x229,x230,x231,x232,x233,x234,x235,x236,x237,x238,x239,x240,x241,x242,x243,x244,x245,x246,x247,x248,x249,x250,x251,x252,x253,x254,x255,x256,x257,x258,x259,x260,x261,x262,x263,x264,x265,x266,x267,x268,x269,x270,x271,x272,x273,x274,x275,x276,x277],[]⟩ w:=by
 subst hcd
 have HQp:=Lib.hid hQp;have HK:=Lib.hid hK
 clear hQp hK
 obtain⟨i0,hi,hz0,hz1,hz2⟩:=info_parts event_info9
 obtain⟨_,_,_,hW4,_⟩:=hA.mem.blk
 have x6:w.cell? ⟨J.bW,6,none⟩=some (.int .i64 (s.rw.now:Int)):=by rw [cell_blk hW4];rfl
 have xo:w.cell? ⟨J.bO,0,none⟩=some (.slice ea s.evs.length ec):=by rw [cell_blk hA.rest.out];rfl
 have lWw:=blk_lt hW4
 have lOw:=blk_lt hA.rest.out
 have lCw:=blk_lt hC
 have Hev:=Lib.hid hA.rest.evs
 have nW:(Value.slice ea s.evs.length ec).ownBlock≠some J.bW:=row_ne hA.rest.evs hW4 (by decide)
 have nO:(Value.slice ea s.evs.length ec).ownBlock≠some J.bO:=row_ne hA.rest.evs hA.rest.out (by decide)
 have nC:(Value.slice ea s.evs.length ec).ownBlock≠some bC:=row_ne hA.rest.evs hC (by decide)
 have HA:=Lib.hid hA;have HC:=Lib.hid hC
 clear hW4 hA hC
 conv=>arg 2;whnf
 refine wp_region_L ((λu=>u.cell? ⟨J.bO,0,none⟩=some (.slice ea s.evs.length ec)/\u.cell? ⟨J.bW,6,none⟩=some (.int .i64 (s.rw.now:Int)))) 11 (by kernel_rfl) ?hS0L2 ?_
 case hS0L2=>
  (exact⟨xo,x6⟩)
 intro hS hcl
 refine wpAnyL_take (i:=0) (v:=?tv0L2) 12 rfl (by kernel_rfl) (by kernel_rfl) (by kernel_rfl) (by kernel_rfl) (by kernel_rfl) hcl (by exact λ_ _ _ h=>HQp.out _ _ _ _ h) (Or.inl ⟨by rfl,?th0L2⟩) hS ?tr0L2
 (case th0L2=>(intro w hSw;go_simp;with_reducible rfl))
 clear hcl;intro hcl
 (simp only [Act.put,zq1,zq2,zq3,zq4,zq5,zq6])
 refine wpAnyL_take (i:=1) (v:=?tv1L2) 12 rfl (by kernel_rfl) (by kernel_rfl) (by kernel_rfl) (by kernel_rfl) (by kernel_rfl) hcl (by exact λ_ _ _ h=>HQp.out _ _ _ _ h) (Or.inl ⟨by rfl,?th1L2⟩) hS ?tr1L2
 (case th1L2=>(intro w hSw;go_simp;with_reducible rfl))
 clear hcl;intro hcl
 (simp only [Act.put,zq1,zq2,zq3,zq4,zq5,zq6])
 refine wpAnyL_take (i:=2) (v:=?tv2L2) 12 rfl (by kernel_rfl) (by kernel_rfl) (by kernel_rfl) (by kernel_rfl) (by kernel_rfl) hcl (by exact λ_ _ _ h=>HQp.out _ _ _ _ h) (Or.inl ⟨by rfl,?th2L2⟩) hS ?tr2L2
 (case th2L2=>(intro w hSw;go_simp;with_reducible rfl))
 clear hcl;intro hcl
 (simp only [Act.put,zq1,zq2,zq3,zq4,zq5,zq6])
 refine wpAnyL_take (i:=3) (v:=?tv3L2) 12 rfl (by kernel_rfl) (by kernel_rfl) (by kernel_rfl) (by kernel_rfl) (by kernel_rfl) hcl (by exact λ_ _ _ h=>HQp.out _ _ _ _ h) (Or.inl ⟨by rfl,?th3L2⟩) hS ?tr3L2
 (case th3L2=>(intro w hSw;go_simp;with_reducible rfl))
 clear hcl;intro hcl
 (simp only [Act.put,zq1,zq2,zq3,zq4,zq5,zq6])
 refine wpAnyL_take (i:=4) (v:=?tv4L2) 12 rfl (by kernel_rfl) (by kernel_rfl) (by kernel_rfl) (by kernel_rfl) (by kernel_rfl) hcl (by exact λ_ _ _ h=>HQp.out _ _ _ _ h) (Or.inl ⟨by rfl,?th4L2⟩) hS ?tr4L2
 (case th4L2=>(intro w hSw;go_simp;with_reducible rfl))
 clear hcl;intro hcl
 (simp only [Act.put,zq1,zq2,zq3,zq4,zq5,zq6])
 refine wpAnyL_take (i:=5) (v:=?tv5L2) 12 rfl (by kernel_rfl) (by kernel_rfl) (by kernel_rfl) (by kernel_rfl) (by kernel_rfl) hcl (by exact λ_ _ _ h=>HQp.out _ _ _ _ h) (Or.inl ⟨by rfl,?th5L2⟩) hS ?tr5L2
 (case th5L2=>(intro w hSw;go_simp;with_reducible rfl))
 clear hcl;intro hcl
 (simp only [Act.put,zq1,zq2,zq3,zq4,zq5,zq6])
 refine wpAnyL_take (i:=6) (v:=?tv6L2) 12 rfl (by kernel_rfl) (by kernel_rfl) (by kernel_rfl) (by kernel_rfl) (by kernel_rfl) hcl (by exact λ_ _ _ h=>HQp.out _ _ _ _ h) (Or.inl ⟨by rfl,?th6L2⟩) hS ?tr6L2
 (case th6L2=>(intro w hSw;go_simp;with_reducible rfl))
 clear hcl;intro hcl
 (simp only [Act.put,zq1,zq2,zq3,zq4,zq5,zq6])
 refine wpAnyL_take (i:=7) (v:=?tv7L2) 12 rfl (by kernel_rfl) (by kernel_rfl) (by kernel_rfl) (by kernel_rfl) (by kernel_rfl) hcl (by exact λ_ _ _ h=>HQp.out _ _ _ _ h) (Or.inl ⟨by rfl,?th7L2⟩) hS ?tr7L2
 (case th7L2=>(intro w hSw;go_simp;with_reducible rfl))
 clear hcl;intro hcl
 (simp only [Act.put,zq1,zq2,zq3,zq4,zq5,zq6])
 refine wpAnyL_one (i:=8) (by kernel_rfl) rfl hcl (λK' hK=>?_)
 have HK:=Lib.hid hK;clear hK
 ((rw [if_pos (by kernel_rfl)]);(simp only [zq1,zq2,zq3]);go_big_op)
 refine HK.out _ _ ?hS8L2 (λhcl=>?_)
 case hS8L2=>
  intro _
  (exact⟨(((Gr.new w _).drew).cell lOw).trans xo,(((Gr.new w _).drew).cell lWw).trans x6⟩)
 clear HK
 refine wpAnyL_one (i:=9) (by kernel_rfl) rfl hcl (λK' hK=>?_)
 have HK:=Lib.hid hK;clear hK
 ((refine step_append_lies _ (by rfl) _ _ _ (by rfl) w2.heap.size 52 i0 _ 8 96 Tryz.underlying27 hi hz0 hz1 hz2 rfl (by omega) _ _ _ (by rfl) (row_below Hev.out (Gr.new w _).drew) ⟨w.heap.size,0,none⟩ 1 1 [.int .i64 (i:Int),.int .i64 (s.rw.now:Int),.int .i64 0,.int .i64 0,.int .i64 0,.int .u64 0,.slice none 0 0,.slice none 0 0] (by rfl) (by rfl) (World.news_of_block (cs:=#[.int .i64 (i:Int),.int .i64 (s.rw.now:Int),.int .i64 0,.int .i64 0,.int .i64 0,.int .u64 0,.slice none 0 0,.slice none 0 0]) (t:=52) (fr:=(0,0)) (heap_alloc_new w _)) (by simp [Value.oneCell']) (by omega) (by unfold maxLen;omega) (by skip;omega) (by have:=HA.out.rest.below.size;simp;omega) (w.heap.size+1) (by simp) ?_;intro g8 cp8 w8 hown8 hgrow8 hat8 hlt8;have zo:=((hgrow8.cell_far _ (by simp;omega) (Ne.symm nO)).trans ((((Gr.new w _).drew).cell lOw).trans xo));have z6:=((hgrow8.cell_far _ (by simp;omega) (Ne.symm nW)).trans ((((Gr.new w _).drew).cell lWw).trans x6));have zf:w8.frozen? ⟨J.bO,0,none⟩=false:=frozen_blk ((hgrow8.block _ (by simp;omega) (Ne.symm nO)).trans ((((Gr.new w _).drew).block _ lOw).trans HA.out.rest.out)) _;have zc:=((hgrow8.block bC (by simp;omega) (Ne.symm nC)).trans ((((Gr.new w _).drew).block _ lCw).trans HC.out))))
 refine HK.out _ _ ?hS9L2 (λhcl=>?_)
 case hS9L2=>
  intro _
  (exact⟨zo,z6⟩)
 clear HK
 (simp only [Act.put,zq1,zq2,zq3,zq4,zq5,zq6])
 refine wpAnyL_one (i:=10) (by kernel_rfl) rfl hcl (λK' hK=>?_)
 have HK:=Lib.hid hK;clear hK
 ((rw [if_pos (by kernel_rfl)]);(simp only [zq1,zq2,zq3]);go_big_op)
 refine HK.out _ _ ?hS10L2 (λhcl=>?_)
 case hS10L2=>
  intro _
  (exact⟨zo,z6⟩)
 clear HK
 refine wpAnyL_one (i:=11) (by kernel_rfl) rfl hcl (λK' hK=>?_)
 have HK:=Lib.hid hK;clear hK
 ((rw [if_pos (by kernel_rfl)]);(simp only [zq1,zq2,zq3]);go_big_op)
 refine HK.out _ _ (λh=>by cases h.symm.trans (by kernel_rfl:_=true)) (λ_=>wpAnyL_done (by kernel_rfl) ?_ _)
 clear HK
 (clear hS)
 have hc8:Chg (λk=>(Value.slice ea s.evs.length ec).ownBlock=some k) w w8:=(((Chg.refl _ w).alloc _).drew).grown hgrow8 (λq hq=>.inl hq)
 have hk8:KeepB w (.slice ea s.evs.length ec) (.slice (some ⟨g8,0,none⟩) (s.evs.length+1) cp8):=λb hb=>by
  cases hb
  rcases hat8 with h9|h9
  ·exact .inl h9
  ·exact .inr (by show _<=g8;omega)
 have hA9:=HA.out.app (ea':=some ⟨g8,0,none⟩) (ec':=cp8) ⟨i,s.rw.now,0,0,ans0,[]⟩ ⟨rfl,rfl⟩ hc8 hk8 hown8
 have hC9:=(blk_set_other (blk_ne9 HC.out HA.out.rest.out (by decide)) 0 (.slice (some ⟨g8,0,none⟩) (s.evs.length+1) cp8)).trans zc
 exact HK.out _ _ _ _ _ _ _ _ _ _ _ _ ⟨hC9,_,_,_,hA9⟩
set_option maxHeartbeats 4000000 in
theorem log_r29 {w2 w:World} {J:RJ} {s:RefS} {hl:List Value} {vs:List HV} {G K9 L:Value} {ea:Option Addr} {ec:Nat} {ers:List (Value×Value)} {bC:Nat} {cC:Array Value} {q k:Nat} {t:TapeP} {r:RWD} {x0 x1 x2 x3 x4 x5 x6 x7 x8 x9 x10 x11 x12 x13 x14 x16 x17 x18 x20 x21 x23 x24 x25 x26 x27 x28 x29 x30 x31 x32 x33 x34 x35 x36 x37 x38 x39 x40 x41 x42 x43 x44 x45 x46 x47 x48 x49 x50 x51 x52 x53 x54 x55 x56 x57 x58 x59 x60 x61 x62 x63 x64 x65 x66 x67 x68 x69 x70 x71 x72 x73 x74 x75 x76 x77 x78 x79 x80 x81 x82 x83 x84 x85 x86 x87 x88 x89 x90 x91 x92 x93 x94 x95 x96 x97 x98 x99 x100 x101 x102 x103 x104 x105 x106 x107 x108 x109 x110 x111 x112 x113 x114 x115 x116 x117 x118 x119 x120 x121 x122 x123 x124 x125 x126 x127 x128 x129 x130 x131 x132 x133 x134 x135 x136 x137 x138 x139 x140 x141 x142 x143 x144 x145 x146 x147 x148 x149 x150 x151 x152 x153 x154 x155 x156 x157 x158 x159 x160 x161 x162 x163 x164 x165 x166 x167 x168 x169 x170 x171 x172 x173 x174 x175 x176 x177 x178 x179 x180 x181 x182 x183 x184 x185 x186 x187 x188 x189 x190 x191 x192 x193 x194 x195 x196 x197 x198 x199 x200 x201 x202 x203 x204 x205 x206 x207 x208 x209 x210 x211 x212 x213 x214 x215 x216 x217 x218 x219 x220 x221 x222 x223 x224 x225 x226 x227 x228 x229 x230 x231 x232 x233 x234 x235 x236 x237 x238 x239 x240 x241 x242 x243 x244 x245 x246 x247 x248 x249 x250 x251 x252 x253 x254 x255 x256 x257 x258 x259 x260 x261 x262 x263 x264 x265 x266 x267 x268 x269 x270 x271 x272 x273 x274 x275 x276 x277:Value} {K:Act->World->Prop} {Q0:Exit->Act->World->Prop} {cd:Code} (hcd:cd=logReg 29) (hQp:∀ c d v (a:Act) {w},Q0 (.panic c) (a.put d v) w->Q0 (.panic c) a w) (hM:LogM w2 w J q s hl vs G K9 L ea ec ers t r) (hk:k=(s.hands.getD q rh0).ev) (hev:k<s.evs.length) (hst:(s.evs.getD k ev0).steps<=1000000) (hC:w.heap[bC]?=some (.cells cC 48 (0,0)))
  (hK:∀(y144 y145 y146 y147 y148 y149 y150 y151 y152 y153 y154 y155:Value) (w':World),w'.heap[bC]?=some (.cells cC 48 (0,0))/\(∃ ers',LogM w2 w' J q { s with evs:=modEv s.evs k stepEv } hl vs G K9 L ea ec ers' t r)->K ⟨#[x0,x1,x2,x3,x4,x5,x6,x7,x8,x9,x10,x11,x12,x13,x14,.pointer (some ⟨J.bW,0,none⟩),x16,x17,x18,.pointer (some ⟨J.bO,0,none⟩),x20,x21,.pointer (some ⟨J.bH,q*16,none⟩),x23,x24,x25,x26,x27,x28,x29,x30,x31,x32,x33,x34,x35,x36,x37,x38,x39,x40,x41,x42,x43,x44,x45,x46,x47,x48,x49,x50,x51,x52,x53,x54,x55,x56,x57,x58,x59,x60,x61,x62,x63,x64,x65,x66,x67,x68,x69,x70,x71,x72,x73,x74,x75,x76,x77,x78,x79,x80,x81,x82,x83,x84,x85,x86,x87,x88,x89,x90,x91,x92,x93,x94,x95,x96,x97,x98,x99,x100,x101,x102,x103,x104,x105,x106,x107,x108,x109,x110,x111,x112,x113,x114,x115,x116,x117,x118,x119,x120,x121,x122,x123,x124,x125,x126,x127,x128,x129,x130,x131,x132,x133,x134,x135,x136,x137,x138,x139,x140,x141,x142,x143,y144,y145,y146,y147,y148,y149,y150,y151,y152,y153,y154,y155,x156,x157,x158,x159,x160,x161,x162,x163,x164,x165,x166,x167,x168,x169,x170,x171,x172,x173,x174,x175,x176,x177,x178,x179,x180,x181,x182,x183,x184,x185,x186,x187,x188,x189,x190,x191,x192,x193,x194,x195,x196,x197,x198,x199,x200,x201,x202,x203,x204,x205,x206,x207,x208,x209,x210,x211,x212,x213,x214,x215,x216,x217,x218,x219,x220,x221,x222,x223,x224,x225,x226,x227,x228,x229,x230,x231,x232,x233,x234,x235,x236,x237,x238,x239,x240,x241,x242,x243,x244,x245,x246,x247,x248,x249,x250,x251,x252,x253,x254,x255,x256,x257,x258,x259,x260,x261,x262,x263,x264,x265,x266,x267,x268,x269,x270,x271,x272,x273,x274,x275,x276,x277],[]⟩ w'):Code.wp Tryz.prog cd (Exit.then K Q0) ⟨#[x0,x1,x2,x3,x4,x5,x6,x7,x8,x9,x10,x11,x12,x13,x14,.pointer (some ⟨J.bW,0,none⟩),x16,x17,x18,.pointer (some ⟨J.bO,0,none⟩),x20,x21,.pointer (some ⟨J.bH,q*16,none⟩),x23,x24,x25,x26,x27,x28,x29,x30,x31,x32,x33,x34,x35,x36,x37,x38,x39,x40,x41,x42,x43,x44,x45,x46,x47,x48,x49,x50,x51,x52,x53,x54,x55,x56,x57,x58,x59,x60,x61,x62,x63,x64,x65,x66,x67,x68,x69,x70,x71,x72,x73,x74,x75,x76,x77,x78,x79,x80,x81,x82,x83,x84,x85,x86,x87,x88,x89,x90,x91,x92,x93,x94,x95,x96,x97,x98,x99,x100,x101,x102,x103,x104,x105,x106,x107,x108,x109,x110,x111,x112,x113,x114,x115,x116,x117,x118,x119,x120,x121,x122,x123,x124,x125,x126,x127,x128,x129,x130,x131,x132,x133,x134,x135,x136,x137,x138,x139,x140,x141,x142,x143,x144,x145,x146,x147,x148,x149,x150,x151,x152,x153,x154,x155,x156,x157,x158,x159,x160,x161,x162,x163,x164,x165,x166,x167,x168,x169,x170,x171,x172,x173,x174,x175,x176,x177,x178,x179,x180,x181,x182,x183,x184,x185,x186,x187,x188,x189,x190,x191,x192,x193,x194,x195,x196,x197,x198,x199,x200,x201,x202,x203,x204,x205,x206,x207,x208,x209,x210,x211,x212,x213,x214,x215,x216,x217,x218,x219,x220,x221,x222,x223,x224,x225,x226,x227,x228,x229,x230,x231,x232,x233,x234,x235,x236,x237,x238,x239,x240,x241,x242,x243,x244,x245,x246,x247,x248,x249,x250,x251,x252,x253,x254,x255,x256,x257,x258,x259,x260,x261,x262,x263,x264,x265,x266,x267,x268,x269,x270,x271,x272,x273,x274,x275,x276,x277],[]⟩ w:=by
 subst hcd
 have HQp:=Lib.hid hQp;have HK:=Lib.hid hK
 clear hQp hK
 obtain⟨g,rfl,hgl,hgc⟩:=hM.ev_some hev
 have hS:=hM.stepped hev rfl
 obtain⟨st,hst9⟩:∃ st,st=(s.evs.getD k ev0).steps:=⟨_,rfl⟩
 rw [<-hst9] at hS hst
 have x3:w.cell? ⟨g,k*8+3,none⟩=some (.int .i64 (st:Int)):=by rw [(hgc 3 (by omega)).1,hst9];rfl
 have f3:w.frozen? ⟨g,k*8+3,none⟩=false:=(hgc 3 (by omega)).2
 have xo:w.cell? ⟨J.bO,0,none⟩=some (.slice (some ⟨g,0,none⟩) s.evs.length ec):=by rw [cell_blk hM.rest.out];rfl
 have xh:w.cell? ⟨J.bH,q*16+1,none⟩=some (.int .i64 (k:Int)):=by
  obtain⟨PV,LV,KV,ht,_⟩:=hM.tape.tape
  have hb:w.heap[J.bH]?=_:=ht.blk
  rw [cell_blk hb,hk]
  have h1:=hM.rest.c1 q hM.hp hM.opn
  have hlen:=hM.rest.lens.1
  have hp:=hM.hp
  show((hl.take (16*q+2)++_).toArray)[q*16+1]?=_
  rw [List.getElem?_toArray,List.getElem?_append_left (by simp;omega),List.getElem?_take_of_lt (by omega),Nat.mul_comm q 16]
  exact h1
 have l1:(k:Int)<(s.evs.length:Int):=by omega
 have l2:¬ (k:Int)<0:=by omega
 have lw:IntKind.i64.wrap ((st:Int)+1)=(st:Int)+1:=by rw [IntKind.wrap_i64];omega
 have lw2:wrap64 ((st:Int)+1)=(st:Int)+1:=by unfold wrap64;omega
 have nC:bC≠g:=λe=>by
  obtain⟨_,_,h9⟩:=row_type hM.rest.evs (b:=g) rfl
  exact blk_ne9 hC h9 (by decide) e
 have HS:=Lib.hid hS;have HC:=Lib.hid hC
 clear hS hC hM hgc hk hst9
 conv=>arg 2;whnf
 refine wp_region_L ((λu=>u.cell? ⟨J.bO,0,none⟩=some (.slice (some ⟨g,0,none⟩) s.evs.length ec)/\u.cell? ⟨J.bH,q*16+1,none⟩=some (.int .i64 (k:Int))/\u.cell? ⟨g,k*8+3,none⟩=some (.int .i64 (st:Int)))) 12 (by kernel_rfl) ?hS0L3 ?_
 case hS0L3=>
  exact⟨xo,xh,x3⟩
 intro hS hcl
 refine wpAnyL_take (i:=0) (v:=?tv0L3) 13 rfl (by kernel_rfl) (by kernel_rfl) (by kernel_rfl) (by kernel_rfl) (by kernel_rfl) hcl (by exact λ_ _ _ h=>HQp.out _ _ _ _ h) (Or.inl ⟨by rfl,?th0L3⟩) hS ?tr0L3
 (case th0L3=>(intro w hSw;go_simp;with_reducible rfl))
 clear hcl;intro hcl
 (simp only [Act.put,zq1,zq2,zq3,zq4,zq5,zq6])
 refine wpAnyL_take (i:=1) (v:=?tv1L3) 13 rfl (by kernel_rfl) (by kernel_rfl) (by kernel_rfl) (by kernel_rfl) (by kernel_rfl) hcl (by exact λ_ _ _ h=>HQp.out _ _ _ _ h) (Or.inl ⟨by rfl,?th1L3⟩) hS ?tr1L3
 (case th1L3=>(intro w hSw;go_simp;with_reducible rfl))
 clear hcl;intro hcl
 (simp only [Act.put,zq1,zq2,zq3,zq4,zq5,zq6])
 refine wpAnyL_take (i:=2) (v:=?tv2L3) 13 rfl (by kernel_rfl) (by kernel_rfl) (by kernel_rfl) (by kernel_rfl) (by kernel_rfl) hcl (by exact λ_ _ _ h=>HQp.out _ _ _ _ h) (Or.inl ⟨by rfl,?th2L3⟩) hS ?tr2L3
 (case th2L3=>(intro w hSw;go_simp;with_reducible rfl))
 clear hcl;intro hcl
 (simp only [Act.put,zq1,zq2,zq3,zq4,zq5,zq6])
 refine wpAnyL_take (i:=3) (v:=?tv3L3) 13 rfl (by kernel_rfl) (by kernel_rfl) (by kernel_rfl) (by kernel_rfl) (by kernel_rfl) hcl (by exact λ_ _ _ h=>HQp.out _ _ _ _ h) (Or.inl ⟨by rfl,?th3L3⟩) hS ?tr3L3
 (case th3L3=>(intro w hSw;go_simp;with_reducible rfl))
 clear hcl;intro hcl
 (simp only [Act.put,zq1,zq2,zq3,zq4,zq5,zq6])
 refine wpAnyL_take (i:=4) (v:=?tv4L3) 13 rfl (by kernel_rfl) (by kernel_rfl) (by kernel_rfl) (by kernel_rfl) (by kernel_rfl) hcl (by exact λ_ _ _ h=>HQp.out _ _ _ _ h) (Or.inl ⟨by rfl,?th4L3⟩) hS ?tr4L3
 (case th4L3=>(intro w hSw;go_simp;with_reducible rfl))
 clear hcl;intro hcl
 (simp only [Act.put,zq1,zq2,zq3,zq4,zq5,zq6])
 refine wpAnyL_take (i:=5) (v:=?tv5L3) 13 rfl (by kernel_rfl) (by kernel_rfl) (by kernel_rfl) (by kernel_rfl) (by kernel_rfl) hcl (by exact λ_ _ _ h=>HQp.out _ _ _ _ h) (Or.inl ⟨by rfl,?th5L3⟩) hS ?tr5L3
 (case th5L3=>(intro w hSw;go_simp;with_reducible rfl))
 clear hcl;intro hcl
 (simp only [Act.put,zq1,zq2,zq3,zq4,zq5,zq6])
 refine wpAnyL_take (i:=6) (v:=?tv6L3) 13 rfl (by kernel_rfl) (by kernel_rfl) (by kernel_rfl) (by kernel_rfl) (by kernel_rfl) hcl (by exact λ_ _ _ h=>HQp.out _ _ _ _ h) (Or.inl ⟨by rfl,?th6L3⟩) hS ?tr6L3
 (case th6L3=>(intro w hSw;go_simp;with_reducible rfl))
 clear hcl;intro hcl
 (simp only [Act.put,zq1,zq2,zq3,zq4,zq5,zq6])
 refine wpAnyL_take (i:=7) (v:=?tv7L3) 13 rfl (by kernel_rfl) (by kernel_rfl) (by kernel_rfl) (by kernel_rfl) (by kernel_rfl) hcl (by exact λ_ _ _ h=>HQp.out _ _ _ _ h) (Or.inl ⟨by rfl,?th7L3⟩) hS ?tr7L3
 (case th7L3=>(intro w hSw;go_simp;with_reducible rfl))
 clear hcl;intro hcl
 (simp only [Act.put,zq1,zq2,zq3,zq4,zq5,zq6])
 refine wpAnyL_take (i:=8) (v:=?tv8L3) 13 rfl (by kernel_rfl) (by kernel_rfl) (by kernel_rfl) (by kernel_rfl) (by kernel_rfl) hcl (by exact λ_ _ _ h=>HQp.out _ _ _ _ h) (Or.inl ⟨by rfl,?th8L3⟩) hS ?tr8L3
 (case th8L3=>(intro w hSw;go_simp;with_reducible rfl))
 clear hcl;intro hcl
 (simp only [Act.put,zq1,zq2,zq3,zq4,zq5,zq6])
 refine wpAnyL_take (i:=9) (v:=?tv9L3) 13 rfl (by kernel_rfl) (by kernel_rfl) (by kernel_rfl) (by kernel_rfl) (by kernel_rfl) hcl (by exact λ_ _ _ h=>HQp.out _ _ _ _ h) (Or.inl ⟨by rfl,?th9L3⟩) hS ?tr9L3
 (case th9L3=>(intro w hSw;go_simp;with_reducible rfl))
 clear hcl;intro hcl
 (simp only [Act.put,zq1,zq2,zq3,zq4,zq5,zq6])
 refine wpAnyL_take (i:=10) (v:=?tv10L3) 13 rfl (by kernel_rfl) (by kernel_rfl) (by kernel_rfl) (by kernel_rfl) (by kernel_rfl) hcl (by exact λ_ _ _ h=>HQp.out _ _ _ _ h) (Or.inl ⟨by rfl,?th10L3⟩) hS ?tr10L3
 (case th10L3=>(intro w hSw;go_simp;with_reducible rfl))
 clear hcl;intro hcl
 (simp only [Act.put,zq1,zq2,zq3,zq4,zq5,zq6])
 refine wpAnyL_take (i:=11) (v:=?tv11L3) 13 rfl (by kernel_rfl) (by kernel_rfl) (by kernel_rfl) (by kernel_rfl) (by kernel_rfl) hcl (by exact λ_ _ _ h=>HQp.out _ _ _ _ h) (Or.inl ⟨by rfl,?th11L3⟩) hS ?tr11L3
 (case th11L3=>(intro w hSw;go_simp;with_reducible rfl))
 clear hcl;intro hcl
 (simp only [Act.put,zq1,zq2,zq3,zq4,zq5,zq6])
 refine wpAnyL_one (i:=12) (by kernel_rfl) rfl hcl (λK' hK=>?_)
 have HK:=Lib.hid hK;clear hK
 ((rw [if_pos (by kernel_rfl)]);(simp only [zq1,zq2,zq3]);go_big_op)
 refine HK.out _ _ (λh=>by cases h.symm.trans (by kernel_rfl:_=true)) (λ_=>wpAnyL_done (by kernel_rfl) ?_ _)
 clear HK
 (clear hS)
 exact HK.out _ _ _ _ _ _ _ _ _ _ _ _ _ ⟨(blk_set_other nC _ _).trans HC.out,_,HS.out.grown (Gr.refl _).drew⟩
set_option maxHeartbeats 4000000 in
theorem log_r31 {w2 w:World} {J:RJ} {s:RefS} {hl:List Value} {vs:List HV} {G K9 L:Value} {ea:Option Addr} {ec:Nat} {ers:List (Value×Value)} {bC:Nat} {cC:Array Value} {q k:Nat} {t:TapeP} {r:RWD} {x0 x1 x2 x3 x4 x5 x6 x7 x8 x9 x10 x11 x12 x13 x14 x16 x17 x18 x20 x21 x23 x24 x25 x26 x27 x28 x29 x30 x31 x32 x33 x34 x35 x36 x37 x38 x39 x40 x41 x42 x43 x44 x45 x46 x47 x48 x49 x50 x51 x52 x53 x54 x55 x56 x57 x58 x59 x60 x61 x62 x63 x64 x65 x66 x67 x68 x69 x70 x71 x72 x73 x74 x75 x76 x77 x78 x79 x80 x81 x82 x83 x84 x85 x86 x87 x88 x89 x90 x91 x92 x93 x94 x95 x96 x97 x98 x99 x100 x101 x102 x103 x104 x105 x106 x107 x108 x109 x110 x111 x112 x113 x114 x115 x116 x117 x118 x119 x120 x121 x122 x123 x124 x125 x126 x127 x128 x129 x130 x131 x132 x133 x134 x135 x136 x137 x138 x139 x140 x141 x142 x143 x144 x145 x146 x147 x148 x149 x150 x151 x152 x153 x154 x155 x156 x157 x158 x159 x160 x161 x162 x163 x164 x165 x166 x167 x168 x169 x170 x171 x172 x173 x174 x175 x176 x177 x178 x179 x180 x181 x182 x183 x184 x185 x186 x187 x188 x189 x190 x191 x192 x193 x194 x195 x196 x197 x198 x199 x200 x201 x202 x203 x204 x205 x206 x207 x208 x209 x210 x211 x212 x213 x214 x215 x216 x217 x218 x219 x220 x221 x222 x223 x224 x225 x226 x227 x228 x229 x230 x231 x232 x233 x234 x235 x236 x237 x238 x239 x240 x241 x242 x243 x244 x245 x246 x247 x248 x249 x250 x251 x252 x253 x254 x255 x256 x257 x258 x259 x260 x261 x262 x263 x264 x265 x266 x267 x268 x269 x270 x271 x272 x273 x274 x275 x276 x277:Value} {K:Act->World->Prop} {Q0:Exit->Act->World->Prop} {cd:Code} (hcd:cd=logReg 31) (hQp:∀ c d v (a:Act) {w},Q0 (.panic c) (a.put d v) w->Q0 (.panic c) a w) (hM:LogM w2 w J q s hl vs G K9 L ea ec ers t r) (hk:k=(s.hands.getD q rh0).ev) (hev:k<s.evs.length) (hn:J.nt<=16) (hnow:r.now<=1000000) (hC:w.heap[bC]?=some (.cells cC 48 (0,0)))
  (hK:∀(y161 y162 y163 y164 y165 y166 y167 y168 y169 y170 y171 y172 y173 y174 y175 y176 y177:Value) (w':World),w'.heap[bC]?=some (.cells cC 48 (0,0))/\(∃ ers',LogM w2 w' J q { s with evs:=modEv s.evs k (rdone r q t) } hl vs G K9 L ea ec ers' t r)->K ⟨#[x0,x1,x2,x3,x4,x5,x6,x7,x8,x9,x10,x11,x12,x13,x14,.pointer (some ⟨J.bW,0,none⟩),x16,x17,x18,.pointer (some ⟨J.bO,0,none⟩),x20,x21,.pointer (some ⟨J.bH,q*16,none⟩),x23,x24,x25,x26,x27,x28,x29,x30,x31,x32,x33,x34,x35,x36,x37,x38,x39,x40,x41,x42,x43,x44,x45,x46,x47,x48,x49,x50,x51,x52,x53,x54,x55,x56,x57,x58,x59,x60,x61,x62,x63,x64,x65,x66,x67,x68,x69,x70,x71,x72,x73,x74,x75,x76,x77,x78,x79,x80,x81,x82,x83,x84,x85,x86,x87,x88,x89,x90,x91,x92,x93,x94,x95,x96,x97,x98,x99,x100,x101,x102,x103,x104,x105,x106,x107,x108,x109,x110,x111,x112,x113,x114,x115,x116,x117,x118,x119,x120,x121,x122,x123,x124,x125,x126,x127,x128,x129,x130,x131,x132,x133,x134,x135,x136,x137,x138,x139,x140,x141,x142,x143,x144,x145,x146,x147,x148,x149,x150,x151,x152,x153,x154,x155,x156,x157,x158,x159,x160,y161,y162,y163,y164,y165,y166,y167,y168,y169,y170,y171,y172,y173,y174,y175,y176,y177,x178,x179,x180,x181,x182,x183,x184,x185,x186,x187,x188,x189,x190,x191,x192,x193,x194,x195,x196,x197,x198,x199,x200,x201,x202,x203,x204,x205,x206,x207,x208,x209,x210,x211,x212,x213,x214,x215,x216,x217,x218,x219,x220,x221,x222,x223,x224,x225,x226,x227,x228,x229,x230,x231,x232,x233,x234,x235,x236,x237,x238,x239,x240,x241,x242,x243,x244,x245,x246,x247,x248,x249,x250,x251,x252,x253,x254,x255,x256,x257,x258,x259,x260,x261,x262,x263,x264,x265,x266,x267,x268,x269,x270,x271,x272,x273,x274,x275,x276,x277],[]⟩ w'):Code.wp Tryz.prog cd (Exit.then K Q0) ⟨#[x0,x1,x2,x3,x4,x5,x6,x7,x8,x9,x10,x11,x12,x13,x14,.pointer (some ⟨J.bW,0,none⟩),x16,x17,x18,.pointer (some ⟨J.bO,0,none⟩),x20,x21,.pointer (some ⟨J.bH,q*16,none⟩),x23,x24,x25,x26,x27,x28,x29,x30,x31,x32,x33,x34,x35,x36,x37,x38,x39,x40,x41,x42,x43,x44,x45,x46,x47,x48,x49,x50,x51,x52,x53,x54,x55,x56,x57,x58,x59,x60,x61,x62,x63,x64,x65,x66,x67,x68,x69,x70,x71,x72,x73,x74,x75,x76,x77,x78,x79,x80,x81,x82,x83,x84,x85,x86,x87,x88,x89,x90,x91,x92,x93,x94,x95,x96,x97,x98,x99,x100,x101,x102,x103,x104,x105,x106,x107,x108,x109,x110,x111,x112,x113,x114,x115,x116,x117,x118,x119,x120,x121,x122,x123,x124,x125,x126,x127,x128,x129,x130,x131,x132,x133,x134,x135,x136,x137,x138,x139,x140,x141,x142,x143,x144,x145,x146,x147,x148,x149,x150,x151,x152,x153,x154,x155,x156,x157,x158,x159,x160,x161,x162,x163,x164,x165,x166,x167,x168,x169,x170,x171,x172,x173,x174,x175,x176,x177,x178,x179,x180,x181,x182,x183,x184,x185,x186,x187,x188,x189,x190,x191,x192,x193,x194,x195,x196,x197,x198,x199,x200,x201,x202,x203,x204,x205,x206,x207,x208,x209,x210,x211,x212,x213,x214,x215,x216,x217,x218,x219,x220,x221,x222,x223,x224,x225,x226,x227,x228,x229,x230,x231,x232,x233,x234,x235,x236,x237,x238,x239,x240,x241,x242,x243,x244,x245,x246,x247,x248,x249,x250,x251,x252,x253,x254,x255,x256,x257,x258,x259,x260,x261,x262,x263,x264,x265,x266,x267,x268,x269,x270,x271,x272,x273,x274,x275,x276,x277],[]⟩ w:=by
 subst hcd
 have HQp:=Lib.hid hQp;have HK:=Lib.hid hK
 clear hQp hK
 obtain⟨g,rfl,hgl,hgc⟩:=hM.ev_some hev
 obtain⟨⟨a6,k6,hv6,_⟩,⟨a7,k7,hv7,_⟩⟩:=hM.rest.lie k hev
 obtain⟨e,he⟩:∃ e,e=s.evs.getD k ev0:=⟨_,rfl⟩
 obtain⟨v,hv⟩:∃ v,v=ers.getD k vv0:=⟨_,rfl⟩
 rw [<-he,<-hv] at hgc
 rw [<-hv] at hv6 hv7
 have D8:=done_r (hM.grown (Gr.refl _).drew) e v ⟨_,_,_,hv6⟩ ⟨_,_,_,hv7⟩ hn hnow (q*16) (Nat.mul_comm _ _)
 have hfin:∀(u:World) (la:Option Addr) (lc:Nat) (kv:Value),Below w.heap.size w u->LstU u (RMut (rids J q hl vs (.slice (some ⟨g,0,none⟩) s.evs.length ec)) G K9 L) (.slice la t.list.length lc) t.list->Lst u (RMut (rids J q hl vs (.slice (some ⟨g,0,none⟩) s.evs.length ec)) G K9 L) kv (rkey r q t.key)->_:=λu la lc kv hb h1 h2=>(hM.grown hb).done8 (k:=k) (g:=g) (la':=0) hev rfl h1 h2
 rw [<-he] at hfin
 obtain⟨v1,v2⟩:=v
 simp only at hv6 hv7
 obtain⟨n6,hn6⟩:∃ n6,n6=(s.evs.getD k ev0).ans.list.length:=⟨_,rfl⟩
 obtain⟨n7,hn7⟩:∃ n7,n7=(s.evs.getD k ev0).key.length:=⟨_,rfl⟩
 rw [<-hn6] at hv6;rw [<-hn7] at hv7
 subst hv6 hv7
 obtain⟨e0,e1,e2,e3,⟨e4,e5,el⟩,ek⟩:=e
 have D9:Calls Tryz.prog 43 #[.pointer (some ⟨J.bH,q*16,none⟩),.agg #[.int .i64 (e0:Int),.int .i64 (e1:Int),.int .i64 (e2:Int),.int .i64 (e3:Int),.int .i64 e4,.int .u64 (e5:Int),.slice a6 n6 k6,.slice a7 n7 k7]] w.drew λx w'=>∃ la lc ka kn kc,x=.returned (.agg #[.int .i64 (e0:Int),.int .i64 (e1:Int),.int .i64 (r.now:Int),.int .i64 (e3:Int),.int .i64 t.err,.int .u64 (t.val:Int),.slice la t.list.length lc,.slice ka kn kc])/\LstU w' (RMut (rids J q hl vs (.slice (some ⟨g,0,none⟩) s.evs.length ec)) G K9 L) (.slice la t.list.length lc) t.list/\Lst w' (RMut (rids J q hl vs (.slice (some ⟨g,0,none⟩) s.evs.length ec)) G K9 L) (.slice ka kn kc) (rkey r q t.key)/\Below w.heap.size w w':=by
  refine Calls.mono D8 ?_
  rintro x w' ⟨la,lc,kv,rfl,h1,h2,h3⟩
  obtain⟨ka,kc,rfl,_⟩:=id h2
  exact⟨la,lc,ka,_,kc,rfl,h1,h2,undrew h3⟩
 have v0:w.cell? ⟨g,k*8,none⟩=some (.int .i64 (e0:Int)):=(hgc 0 (by omega)).1
 have vf0:w.frozen? ⟨g,k*8,none⟩=false:=(hgc 0 (by omega)).2
 have v1:w.cell? ⟨g,k*8+1,none⟩=some (.int .i64 (e1:Int)):=(hgc 1 (by omega)).1
 have vf1:w.frozen? ⟨g,k*8+1,none⟩=false:=(hgc 1 (by omega)).2
 have v2:w.cell? ⟨g,k*8+2,none⟩=some (.int .i64 (e2:Int)):=(hgc 2 (by omega)).1
 have vf2:w.frozen? ⟨g,k*8+2,none⟩=false:=(hgc 2 (by omega)).2
 have v3:w.cell? ⟨g,k*8+3,none⟩=some (.int .i64 (e3:Int)):=(hgc 3 (by omega)).1
 have vf3:w.frozen? ⟨g,k*8+3,none⟩=false:=(hgc 3 (by omega)).2
 have v4:w.cell? ⟨g,k*8+4,none⟩=some (.int .i64 e4):=(hgc 4 (by omega)).1
 have vf4:w.frozen? ⟨g,k*8+4,none⟩=false:=(hgc 4 (by omega)).2
 have v5:w.cell? ⟨g,k*8+5,none⟩=some (.int .u64 (e5:Int)):=(hgc 5 (by omega)).1
 have vf5:w.frozen? ⟨g,k*8+5,none⟩=false:=(hgc 5 (by omega)).2
 have v6:w.cell? ⟨g,k*8+6,none⟩=some (.slice a6 n6 k6):=(hgc 6 (by omega)).1
 have vf6:w.frozen? ⟨g,k*8+6,none⟩=false:=(hgc 6 (by omega)).2
 have v7:w.cell? ⟨g,k*8+7,none⟩=some (.slice a7 n7 k7):=(hgc 7 (by omega)).1
 have vf7:w.frozen? ⟨g,k*8+7,none⟩=false:=(hgc 7 (by omega)).2
 have xo:w.cell? ⟨J.bO,0,none⟩=some (.slice (some ⟨g,0,none⟩) s.evs.length ec):=by rw [cell_blk hM.rest.out];rfl
 have xh:w.cell? ⟨J.bH,q*16+1,none⟩=some (.int .i64 (k:Int)):=by
  obtain⟨PV,LV,KV,ht,_⟩:=hM.tape.tape
  have hb:w.heap[J.bH]?=_:=ht.blk
  rw [cell_blk hb,hk]
  have h1:=hM.rest.c1 q hM.hp hM.opn
  have hlen:=hM.rest.lens.1
  have hp:=hM.hp
  show((hl.take (16*q+2)++_).toArray)[q*16+1]?=_
  rw [List.getElem?_toArray,List.getElem?_append_left (by simp;omega),List.getElem?_take_of_lt (by omega),Nat.mul_comm q 16]
  exact h1
 have l1:(k:Int)<(s.evs.length:Int):=by omega
 have l2:¬ (k:Int)<0:=by omega
 have nC:bC≠g:=λe=>by
  obtain⟨_,_,h9⟩:=row_type hM.rest.evs (b:=g) rfl
  exact blk_ne9 hC h9 (by decide) e
 have hCl:=blk_lt hC
 have lO9:J.bO<w.heap.size:=World.block_lt_of_cell? _ _ xo
 have lH9:J.bH<w.heap.size:=World.block_lt_of_cell? _ _ xh
 have HD:=Lib.hid D9;have HC:=Lib.hid hC;have HF:=Lib.hid hfin
 clear D8 D9 hC hM hgc hk he hv hn6 hn7 hfin
 conv=>arg 2;whnf
 refine wp_region_L ((λu=>u.cell? ⟨J.bO,0,none⟩=some (.slice (some ⟨g,0,none⟩) s.evs.length ec)/\u.cell? ⟨J.bH,q*16+1,none⟩=some (.int .i64 (k:Int))/\u.cell? ⟨g,k*8,none⟩=some (.int .i64 (e0:Int))/\u.cell? ⟨g,k*8+1,none⟩=some (.int .i64 (e1:Int))/\u.cell? ⟨g,k*8+2,none⟩=some (.int .i64 (e2:Int))/\u.cell? ⟨g,k*8+3,none⟩=some (.int .i64 (e3:Int))/\u.cell? ⟨g,k*8+4,none⟩=some (.int .i64 e4)/\u.cell? ⟨g,k*8+5,none⟩=some (.int .u64 (e5:Int))/\u.cell? ⟨g,k*8+6,none⟩=some (.slice a6 n6 k6)/\u.cell? ⟨g,k*8+7,none⟩=some (.slice a7 n7 k7))) 17 (by kernel_rfl) ?hS0L4 ?_
 case hS0L4=>
  (exact⟨xo,xh,v0,v1,v2,v3,v4,v5,v6,v7⟩)
 intro hS hcl
 refine wpAnyL_take (i:=0) (v:=?tv0L4) 18 rfl (by kernel_rfl) (by kernel_rfl) (by kernel_rfl) (by kernel_rfl) (by kernel_rfl) hcl (by exact λ_ _ _ h=>HQp.out _ _ _ _ h) (Or.inl ⟨by rfl,?th0L4⟩) hS ?tr0L4
 (case th0L4=>(intro w hSw;go_simp;with_reducible rfl))
 clear hcl;intro hcl
 (simp only [Act.put,zq1,zq2,zq3,zq4,zq5,zq6])
 refine wpAnyL_take (i:=1) (v:=?tv1L4) 18 rfl (by kernel_rfl) (by kernel_rfl) (by kernel_rfl) (by kernel_rfl) (by kernel_rfl) hcl (by exact λ_ _ _ h=>HQp.out _ _ _ _ h) (Or.inl ⟨by rfl,?th1L4⟩) hS ?tr1L4
 (case th1L4=>(intro w hSw;go_simp;with_reducible rfl))
 clear hcl;intro hcl
 (simp only [Act.put,zq1,zq2,zq3,zq4,zq5,zq6])
 refine wpAnyL_take (i:=2) (v:=?tv2L4) 18 rfl (by kernel_rfl) (by kernel_rfl) (by kernel_rfl) (by kernel_rfl) (by kernel_rfl) hcl (by exact λ_ _ _ h=>HQp.out _ _ _ _ h) (Or.inl ⟨by rfl,?th2L4⟩) hS ?tr2L4
 (case th2L4=>(intro w hSw;go_simp;with_reducible rfl))
 clear hcl;intro hcl
 (simp only [Act.put,zq1,zq2,zq3,zq4,zq5,zq6])
 refine wpAnyL_take (i:=3) (v:=?tv3L4) 18 rfl (by kernel_rfl) (by kernel_rfl) (by kernel_rfl) (by kernel_rfl) (by kernel_rfl) hcl (by exact λ_ _ _ h=>HQp.out _ _ _ _ h) (Or.inl ⟨by rfl,?th3L4⟩) hS ?tr3L4
 (case th3L4=>(intro w hSw;go_simp;with_reducible rfl))
 clear hcl;intro hcl
 (simp only [Act.put,zq1,zq2,zq3,zq4,zq5,zq6])
 refine wpAnyL_take (i:=4) (v:=?tv4L4) 18 rfl (by kernel_rfl) (by kernel_rfl) (by kernel_rfl) (by kernel_rfl) (by kernel_rfl) hcl (by exact λ_ _ _ h=>HQp.out _ _ _ _ h) (Or.inl ⟨by rfl,?th4L4⟩) hS ?tr4L4
 (case th4L4=>(intro w hSw;go_simp;with_reducible rfl))
 clear hcl;intro hcl
 (simp only [Act.put,zq1,zq2,zq3,zq4,zq5,zq6])
 refine wpAnyL_take (i:=5) (v:=?tv5L4) 18 rfl (by kernel_rfl) (by kernel_rfl) (by kernel_rfl) (by kernel_rfl) (by kernel_rfl) hcl (by exact λ_ _ _ h=>HQp.out _ _ _ _ h) (Or.inl ⟨by rfl,?th5L4⟩) hS ?tr5L4
 (case th5L4=>(intro w hSw;go_simp;with_reducible rfl))
 clear hcl;intro hcl
 (simp only [Act.put,zq1,zq2,zq3,zq4,zq5,zq6])
 refine wpAnyL_take (i:=6) (v:=?tv6L4) 18 rfl (by kernel_rfl) (by kernel_rfl) (by kernel_rfl) (by kernel_rfl) (by kernel_rfl) hcl (by exact λ_ _ _ h=>HQp.out _ _ _ _ h) (Or.inl ⟨by rfl,?th6L4⟩) hS ?tr6L4
 (case th6L4=>(intro w hSw;go_simp;with_reducible rfl))
 clear hcl;intro hcl
 (simp only [Act.put,zq1,zq2,zq3,zq4,zq5,zq6])
 refine wpAnyL_take (i:=7) (v:=?tv7L4) 18 rfl (by kernel_rfl) (by kernel_rfl) (by kernel_rfl) (by kernel_rfl) (by kernel_rfl) hcl (by exact λ_ _ _ h=>HQp.out _ _ _ _ h) (Or.inl ⟨by rfl,?th7L4⟩) hS ?tr7L4
 (case th7L4=>(intro w hSw;go_simp;with_reducible rfl))
 clear hcl;intro hcl
 (simp only [Act.put,zq1,zq2,zq3,zq4,zq5,zq6])
 refine wpAnyL_take (i:=8) (v:=?tv8L4) 18 rfl (by kernel_rfl) (by kernel_rfl) (by kernel_rfl) (by kernel_rfl) (by kernel_rfl) hcl (by exact λ_ _ _ h=>HQp.out _ _ _ _ h) (Or.inl ⟨by rfl,?th8L4⟩) hS ?tr8L4
 (case th8L4=>(intro w hSw;go_simp;with_reducible rfl))
 clear hcl;intro hcl
 (simp only [Act.put,zq1,zq2,zq3,zq4,zq5,zq6])
 refine wpAnyL_take (i:=9) (v:=?tv9L4) 18 rfl (by kernel_rfl) (by kernel_rfl) (by kernel_rfl) (by kernel_rfl) (by kernel_rfl) hcl (by exact λ_ _ _ h=>HQp.out _ _ _ _ h) (Or.inl ⟨by rfl,?th9L4⟩) hS ?tr9L4
 (case th9L4=>(intro w hSw;go_simp;with_reducible rfl))
 clear hcl;intro hcl
 (simp only [Act.put,zq1,zq2,zq3,zq4,zq5,zq6])
 refine wpAnyL_take (i:=10) (v:=?tv10L4) 18 rfl (by kernel_rfl) (by kernel_rfl) (by kernel_rfl) (by kernel_rfl) (by kernel_rfl) hcl (by exact λ_ _ _ h=>HQp.out _ _ _ _ h) (Or.inl ⟨by rfl,?th10L4⟩) hS ?tr10L4
 (case th10L4=>(intro w hSw;go_simp;with_reducible rfl))
 clear hcl;intro hcl
 (simp only [Act.put,zq1,zq2,zq3,zq4,zq5,zq6])
 refine wpAnyL_take (i:=11) (v:=?tv11L4) 18 rfl (by kernel_rfl) (by kernel_rfl) (by kernel_rfl) (by kernel_rfl) (by kernel_rfl) hcl (by exact λ_ _ _ h=>HQp.out _ _ _ _ h) (Or.inl ⟨by rfl,?th11L4⟩) hS ?tr11L4
 (case th11L4=>(intro w hSw;go_simp;with_reducible rfl))
 clear hcl;intro hcl
 (simp only [Act.put,zq1,zq2,zq3,zq4,zq5,zq6])
 refine wpAnyL_take (i:=12) (v:=?tv12L4) 18 rfl (by kernel_rfl) (by kernel_rfl) (by kernel_rfl) (by kernel_rfl) (by kernel_rfl) hcl (by exact λ_ _ _ h=>HQp.out _ _ _ _ h) (Or.inl ⟨by rfl,?th12L4⟩) hS ?tr12L4
 (case th12L4=>(intro w hSw;go_simp;with_reducible rfl))
 clear hcl;intro hcl
 (simp only [Act.put,zq1,zq2,zq3,zq4,zq5,zq6])
 refine wpAnyL_take (i:=13) (v:=?tv13L4) 18 rfl (by kernel_rfl) (by kernel_rfl) (by kernel_rfl) (by kernel_rfl) (by kernel_rfl) hcl (by exact λ_ _ _ h=>HQp.out _ _ _ _ h) (Or.inl ⟨by rfl,?th13L4⟩) hS ?tr13L4
 (case th13L4=>(intro w hSw;go_simp;with_reducible rfl))
 clear hcl;intro hcl
 (simp only [Act.put,zq1,zq2,zq3,zq4,zq5,zq6])
 refine wpAnyL_take (i:=14) (v:=?tv14L4) 18 rfl (by kernel_rfl) (by kernel_rfl) (by kernel_rfl) (by kernel_rfl) (by kernel_rfl) hcl (by exact λ_ _ _ h=>HQp.out _ _ _ _ h) (Or.inl ⟨by rfl,?th14L4⟩) hS ?tr14L4
 (case th14L4=>(intro w hSw;go_simp;with_reducible rfl))
 clear hcl;intro hcl
 (simp only [Act.put,zq1,zq2,zq3,zq4,zq5,zq6])
 refine wpAnyL_one (i:=15) (by kernel_rfl) rfl hcl (λK' hK=>?_)
 have HK:=Lib.hid hK;clear hK
 ((rw [if_pos (by kernel_rfl)]);(simp only [zq1,zq2,zq3]);go_big_op)
 (go_at_call 43;refine HD.out.mono ?_;rintro e9 w9 ⟨la,lc,ka,kn,kc,rfl,hl9,hk9,hb9⟩;have zo:=(hb9.cell (p:=⟨J.bO,0,none⟩) lO9).trans xo;have zh:=(hb9.cell (p:=⟨J.bH,q*16+1,none⟩) lH9).trans xh;have z0:=(hb9.cell (p:=⟨g,k*8,none⟩) hgl).trans v0;have zf0:=(hb9.frozen (p:=⟨g,k*8,none⟩) hgl).trans vf0;have z1:=(hb9.cell (p:=⟨g,k*8+1,none⟩) hgl).trans v1;have zf1:=(hb9.frozen (p:=⟨g,k*8+1,none⟩) hgl).trans vf1;have z2:=(hb9.cell (p:=⟨g,k*8+2,none⟩) hgl).trans v2;have zf2:=(hb9.frozen (p:=⟨g,k*8+2,none⟩) hgl).trans vf2;have z3:=(hb9.cell (p:=⟨g,k*8+3,none⟩) hgl).trans v3;have zf3:=(hb9.frozen (p:=⟨g,k*8+3,none⟩) hgl).trans vf3;have z4:=(hb9.cell (p:=⟨g,k*8+4,none⟩) hgl).trans v4;have zf4:=(hb9.frozen (p:=⟨g,k*8+4,none⟩) hgl).trans vf4;have z5:=(hb9.cell (p:=⟨g,k*8+5,none⟩) hgl).trans v5;have zf5:=(hb9.frozen (p:=⟨g,k*8+5,none⟩) hgl).trans vf5;have z6:=(hb9.cell (p:=⟨g,k*8+6,none⟩) hgl).trans v6;have zf6:=(hb9.frozen (p:=⟨g,k*8+6,none⟩) hgl).trans vf6;have z7:=(hb9.cell (p:=⟨g,k*8+7,none⟩) hgl).trans v7;have zf7:=(hb9.frozen (p:=⟨g,k*8+7,none⟩) hgl).trans vf7)
 refine HK.out _ _ ?hS15L4 (λhcl=>?_)
 case hS15L4=>
  intro _
  (exact⟨zo,zh,z0,z1,z2,z3,z4,z5,z6,z7⟩)
 clear HK
 refine wpAnyL_one (i:=16) (by kernel_rfl) rfl hcl (λK' hK=>?_)
 have HK:=Lib.hid hK;clear hK
 ((rw [if_pos (by kernel_rfl)]);(simp only [zq1,zq2,zq3]);go_big_op)
 refine HK.out _ _ ?hS16L4 (λhcl=>?_)
 case hS16L4=>
  intro _
  (exact⟨zo,zh,z0,z1,z2,z3,z4,z5,z6,z7⟩)
 clear HK
 refine wpAnyL_one (i:=17) (by kernel_rfl) rfl hcl (λK' hK=>?_)
 have HK:=Lib.hid hK;clear hK
 ((rw [if_pos (by kernel_rfl)]);(simp only [zq1,zq2,zq3]);go_big_op)
 refine HK.out _ _ (λh=>by cases h.symm.trans (by kernel_rfl:_=true)) (λ_=>wpAnyL_done (by kernel_rfl) ?_ _)
 clear HK
 (clear hS)
 obtain⟨ers',hZ⟩:=HF.out w9 la lc (.slice ka kn kc) hb9 hl9 hk9
 exact HK.out _ _ _ _ _ _ _ _ _ _ _ _ _ _ _ _ _ _ ⟨(blk_set_other nC _ _).trans ((blk_set_other nC _ _).trans ((blk_set_other nC _ _).trans ((blk_set_other nC _ _).trans ((blk_set_other nC _ _).trans ((blk_set_other nC _ _).trans ((blk_set_other nC _ _).trans ((blk_set_other nC _ _).trans ((hb9.block bC hCl).trans HC.out)))))))),ers',hZ⟩
set_option maxHeartbeats 4000000 in
theorem log_r33 {w2 w:World} {J:RJ} {s:RefS} {hl:List Value} {vs:List HV} {G K9 L:Value} {ea:Option Addr} {ec:Nat} {ers:List (Value×Value)} {bC:Nat} {th kn:Int} {xa xb xc:Nat} {q k:Nat} {t:TapeP} {r:RWD} {x0 x1 x2 x3 x4 x5 x6 x7 x8 x9 x10 x11 x12 x13 x14 x16 x17 x18 x20 x21 x24 x25 x26 x27 x28 x29 x30 x31 x32 x33 x34 x35 x36 x37 x38 x39 x40 x41 x42 x43 x44 x45 x46 x47 x48 x49 x50 x51 x52 x53 x54 x55 x56 x57 x58 x59 x60 x61 x62 x63 x64 x65 x66 x67 x68 x69 x70 x71 x72 x73 x74 x75 x76 x77 x78 x79 x80 x81 x82 x83 x84 x85 x86 x87 x88 x89 x90 x91 x92 x93 x94 x95 x96 x97 x98 x99 x100 x101 x102 x103 x104 x105 x106 x107 x108 x109 x110 x111 x112 x113 x114 x115 x116 x117 x118 x119 x120 x121 x122 x123 x124 x125 x126 x127 x128 x129 x130 x131 x132 x133 x134 x135 x136 x137 x138 x139 x140 x141 x142 x143 x144 x145 x146 x147 x148 x149 x150 x151 x152 x153 x154 x155 x156 x157 x158 x159 x160 x161 x162 x163 x164 x165 x166 x167 x168 x169 x170 x171 x172 x173 x174 x175 x176 x177 x178 x179 x180 x181 x182 x183 x184 x185 x186 x187 x188 x189 x190 x191 x192 x193 x194 x195 x196 x197 x198 x199 x200 x201 x202 x203 x204 x205 x206 x207 x208 x209 x210 x211 x212 x213 x214 x215 x216 x217 x218 x219 x220 x221 x222 x223 x224 x225 x226 x227 x228 x229 x230 x231 x232 x233 x234 x235 x236 x237 x238 x239 x240 x241 x242 x243 x244 x245 x246 x247 x248 x249 x250 x251 x252 x253 x254 x255 x256 x257 x258 x259 x260 x261 x262 x263 x264 x265 x266 x267 x268 x269 x270 x271 x272 x273 x274 x275 x276 x277:Value} {K:Act->World->Prop} {Q0:Exit->Act->World->Prop} {cd:Code} (hcd:cd=logReg 33) (hQp:∀ c d v (a:Act) {w},Q0 (.panic c) (a.put d v) w->Q0 (.panic c) a w) (hM:LogM w2 w J q s hl vs G K9 L ea ec ers t r) (hC:w.heap[bC]?=some (.cells (callCs th 0 kn xa xb xc) 48 (0,0)))
  (hK:∀(y188 y189 y190 y191 y192 y193 y194 y195 y196 y197 y198 y199:Value) (w':World),w'.heap[bC]?=some (.cells (callCs th 0 kn xa xb xc) 48 (0,0))/\LogM w2 w' J q { s with hands:=s.hands.set q { s.hands.getD q rh0 with own:=t.priv } } hl vs G K9 L ea ec ers t r->K ⟨#[x0,x1,x2,x3,x4,x5,x6,x7,x8,x9,x10,x11,x12,x13,x14,.pointer (some ⟨J.bW,0,none⟩),x16,x17,x18,.pointer (some ⟨J.bO,0,none⟩),x20,x21,.pointer (some ⟨J.bH,q*16,none⟩),.pointer (some ⟨bC,0,none⟩),x24,x25,x26,x27,x28,x29,x30,x31,x32,x33,x34,x35,x36,x37,x38,x39,x40,x41,x42,x43,x44,x45,x46,x47,x48,x49,x50,x51,x52,x53,x54,x55,x56,x57,x58,x59,x60,x61,x62,x63,x64,x65,x66,x67,x68,x69,x70,x71,x72,x73,x74,x75,x76,x77,x78,x79,x80,x81,x82,x83,x84,x85,x86,x87,x88,x89,x90,x91,x92,x93,x94,x95,x96,x97,x98,x99,x100,x101,x102,x103,x104,x105,x106,x107,x108,x109,x110,x111,x112,x113,x114,x115,x116,x117,x118,x119,x120,x121,x122,x123,x124,x125,x126,x127,x128,x129,x130,x131,x132,x133,x134,x135,x136,x137,x138,x139,x140,x141,x142,x143,x144,x145,x146,x147,x148,x149,x150,x151,x152,x153,x154,x155,x156,x157,x158,x159,x160,x161,x162,x163,x164,x165,x166,x167,x168,x169,x170,x171,x172,x173,x174,x175,x176,x177,x178,x179,x180,x181,x182,x183,x184,x185,x186,x187,y188,y189,y190,y191,y192,y193,y194,y195,y196,y197,y198,y199,x200,x201,x202,x203,x204,x205,x206,x207,x208,x209,x210,x211,x212,x213,x214,x215,x216,x217,x218,x219,x220,x221,x222,x223,x224,x225,x226,x227,x228,x229,x230,x231,x232,x233,x234,x235,x236,x237,x238,x239,x240,x241,x242,x243,x244,x245,x246,x247,x248,x249,x250,x251,x252,x253,x254,x255,x256,x257,x258,x259,x260,x261,x262,x263,x264,x265,x266,x267,x268,x269,x270,x271,x272,x273,x274,x275,x276,x277],[]⟩ w'):Code.wp Tryz.prog cd (Exit.then K Q0) ⟨#[x0,x1,x2,x3,x4,x5,x6,x7,x8,x9,x10,x11,x12,x13,x14,.pointer (some ⟨J.bW,0,none⟩),x16,x17,x18,.pointer (some ⟨J.bO,0,none⟩),x20,x21,.pointer (some ⟨J.bH,q*16,none⟩),.pointer (some ⟨bC,0,none⟩),x24,x25,x26,x27,x28,x29,x30,x31,x32,x33,x34,x35,x36,x37,x38,x39,x40,x41,x42,x43,x44,x45,x46,x47,x48,x49,x50,x51,x52,x53,x54,x55,x56,x57,x58,x59,x60,x61,x62,x63,x64,x65,x66,x67,x68,x69,x70,x71,x72,x73,x74,x75,x76,x77,x78,x79,x80,x81,x82,x83,x84,x85,x86,x87,x88,x89,x90,x91,x92,x93,x94,x95,x96,x97,x98,x99,x100,x101,x102,x103,x104,x105,x106,x107,x108,x109,x110,x111,x112,x113,x114,x115,x116,x117,x118,x119,x120,x121,x122,x123,x124,x125,x126,x127,x128,x129,x130,x131,x132,x133,x134,x135,x136,x137,x138,x139,x140,x141,x142,x143,x144,x145,x146,x147,x148,x149,x150,x151,x152,x153,x154,x155,x156,x157,x158,x159,x160,x161,x162,x163,x164,x165,x166,x167,x168,x169,x170,x171,x172,x173,x174,x175,x176,x177,x178,x179,x180,x181,x182,x183,x184,x185,x186,x187,x188,x189,x190,x191,x192,x193,x194,x195,x196,x197,x198,x199,x200,x201,x202,x203,x204,x205,x206,x207,x208,x209,x210,x211,x212,x213,x214,x215,x216,x217,x218,x219,x220,x221,x222,x223,x224,x225,x226,x227,x228,x229,x230,x231,x232,x233,x234,x235,x236,x237,x238,x239,x240,x241,x242,x243,x244,x245,x246,x247,x248,x249,x250,x251,x252,x253,x254,x255,x256,x257,x258,x259,x260,x261,x262,x263,x264,x265,x266,x267,x268,x269,x270,x271,x272,x273,x274,x275,x276,x277],[]⟩ w:=by
 subst hcd
 have HQp:=Lib.hid hQp;have HK:=Lib.hid hK
 clear hQp hK
 obtain⟨x0,x1,x15,PV,LV,KV,hH,hPV,_,_,hcl⟩:=hM.hand16
 obtain⟨OV,hO,_⟩:=hM.rest.own q hM.hp
 have hown:=hM.own PV t.priv hPV
 obtain⟨pa,pc,rfl,_⟩:=id hPV
 obtain⟨o,ho⟩:∃ o,o=(vs.getD q hv0).2.2:=⟨_,rfl⟩
 rw [<-ho] at hO hown
 have e15:w.cell? ⟨J.bH,q*16+15,none⟩=some (.slice (some ⟨o,0,none⟩) 1 1):=by
  obtain⟨PV9,LV9,KV9,ht,_⟩:=hM.tape.tape
  have hb:w.heap[J.bH]?=_:=ht.blk
  have hlen:=hM.rest.lens.1
  have hp:=hM.hp
  rw [cell_blk hb,ho]
  show((hl.take (16*q+2)++(tapeL _ _ _ _++hl.drop (16*q+15))).toArray)[q*16+15]?=_
  rw [List.getElem?_toArray,List.getElem?_append_right (by simp;omega),List.getElem?_append_right (by simp [tapeL];omega)]
  have e1:(hl.take (16*q+2)).length=16*q+2:=by simp;omega
  rw [e1,show(tapeL (rids J q hl vs (Value.slice ea s.evs.length ec)).tids.bW G K9 (t.raw PV9 LV9 KV9)).length=13 from rfl,List.getElem?_drop,show 16*q+15+(q*16+15 - (16*q+2) - 13)=16*q+15 by omega]
  exact hM.rest.c15 q hp
 have e10:w.cell? ⟨J.bH,q*16+10,none⟩=some (.slice pa t.priv.length pc):=by have h9:=hcl 8 _ rfl (by omega);rw [show 16*q+2+8=q*16+10 by omega] at h9;exact h9
 have y1:w.cell? ⟨bC,1,none⟩=some (.int .i64 0):=by rw [cell_blk hC];rfl
 have eo:w.cell? ⟨o,0,none⟩=some OV:=by rw [cell_blk hO];rfl
 have fo:w.frozen? ⟨o,0,none⟩=false:=frozen_blk hO _
 have nC:bC≠o:=blk_ne9 hC hO (by decide)
 have HC:=Lib.hid hC;have HO:=Lib.hid hown
 clear hM hH hPV hcl hO hown hC ho
 conv=>arg 2;whnf
 refine wp_region_L ((λu=>u.cell? ⟨J.bH,q*16+15,none⟩=some (.slice (some ⟨o,0,none⟩) 1 1)/\u.cell? ⟨J.bH,q*16+10,none⟩=some (.slice pa t.priv.length pc)/\u.cell? ⟨bC,1,none⟩=some (.int .i64 0))) 12 (by kernel_rfl) ?hS0L5 ?_
 case hS0L5=>
  exact⟨e15,e10,y1⟩
 intro hS hcl
 refine wpAnyL_take (i:=0) (v:=?tv0L5) 13 rfl (by kernel_rfl) (by kernel_rfl) (by kernel_rfl) (by kernel_rfl) (by kernel_rfl) hcl (by exact λ_ _ _ h=>HQp.out _ _ _ _ h) (Or.inl ⟨by rfl,?th0L5⟩) hS ?tr0L5
 (case th0L5=>(intro w hSw;go_simp;with_reducible rfl))
 clear hcl;intro hcl
 (simp only [Act.put,zq1,zq2,zq3,zq4,zq5,zq6])
 refine wpAnyL_take (i:=1) (v:=?tv1L5) 13 rfl (by kernel_rfl) (by kernel_rfl) (by kernel_rfl) (by kernel_rfl) (by kernel_rfl) hcl (by exact λ_ _ _ h=>HQp.out _ _ _ _ h) (Or.inl ⟨by rfl,?th1L5⟩) hS ?tr1L5
 (case th1L5=>(intro w hSw;go_simp;with_reducible rfl))
 clear hcl;intro hcl
 (simp only [Act.put,zq1,zq2,zq3,zq4,zq5,zq6])
 refine wpAnyL_take (i:=2) (v:=?tv2L5) 13 rfl (by kernel_rfl) (by kernel_rfl) (by kernel_rfl) (by kernel_rfl) (by kernel_rfl) hcl (by exact λ_ _ _ h=>HQp.out _ _ _ _ h) (Or.inl ⟨by rfl,?th2L5⟩) hS ?tr2L5
 (case th2L5=>(intro w hSw;go_simp;with_reducible rfl))
 clear hcl;intro hcl
 (simp only [Act.put,zq1,zq2,zq3,zq4,zq5,zq6])
 refine wpAnyL_take (i:=3) (v:=?tv3L5) 13 rfl (by kernel_rfl) (by kernel_rfl) (by kernel_rfl) (by kernel_rfl) (by kernel_rfl) hcl (by exact λ_ _ _ h=>HQp.out _ _ _ _ h) (Or.inl ⟨by rfl,?th3L5⟩) hS ?tr3L5
 (case th3L5=>(intro w hSw;go_simp;with_reducible rfl))
 clear hcl;intro hcl
 (simp only [Act.put,zq1,zq2,zq3,zq4,zq5,zq6])
 refine wpAnyL_take (i:=4) (v:=?tv4L5) 13 rfl (by kernel_rfl) (by kernel_rfl) (by kernel_rfl) (by kernel_rfl) (by kernel_rfl) hcl (by exact λ_ _ _ h=>HQp.out _ _ _ _ h) (Or.inl ⟨by rfl,?th4L5⟩) hS ?tr4L5
 (case th4L5=>(intro w hSw;go_simp;with_reducible rfl))
 clear hcl;intro hcl
 (simp only [Act.put,zq1,zq2,zq3,zq4,zq5,zq6])
 refine wpAnyL_take (i:=5) (v:=?tv5L5) 13 rfl (by kernel_rfl) (by kernel_rfl) (by kernel_rfl) (by kernel_rfl) (by kernel_rfl) hcl (by exact λ_ _ _ h=>HQp.out _ _ _ _ h) (Or.inl ⟨by rfl,?th5L5⟩) hS ?tr5L5
 (case th5L5=>(intro w hSw;go_simp;with_reducible rfl))
 clear hcl;intro hcl
 (simp only [Act.put,zq1,zq2,zq3,zq4,zq5,zq6])
 refine wpAnyL_take (i:=6) (v:=?tv6L5) 13 rfl (by kernel_rfl) (by kernel_rfl) (by kernel_rfl) (by kernel_rfl) (by kernel_rfl) hcl (by exact λ_ _ _ h=>HQp.out _ _ _ _ h) (Or.inl ⟨by rfl,?th6L5⟩) hS ?tr6L5
 (case th6L5=>(intro w hSw;go_simp;with_reducible rfl))
 clear hcl;intro hcl
 (simp only [Act.put,zq1,zq2,zq3,zq4,zq5,zq6])
 refine wpAnyL_take (i:=7) (v:=?tv7L5) 13 rfl (by kernel_rfl) (by kernel_rfl) (by kernel_rfl) (by kernel_rfl) (by kernel_rfl) hcl (by exact λ_ _ _ h=>HQp.out _ _ _ _ h) (Or.inl ⟨by rfl,?th7L5⟩) hS ?tr7L5
 (case th7L5=>(intro w hSw;go_simp;with_reducible rfl))
 clear hcl;intro hcl
 (simp only [Act.put,zq1,zq2,zq3,zq4,zq5,zq6])
 refine wpAnyL_take (i:=8) (v:=?tv8L5) 13 rfl (by kernel_rfl) (by kernel_rfl) (by kernel_rfl) (by kernel_rfl) (by kernel_rfl) hcl (by exact λ_ _ _ h=>HQp.out _ _ _ _ h) (Or.inl ⟨by rfl,?th8L5⟩) hS ?tr8L5
 (case th8L5=>(intro w hSw;go_simp;with_reducible rfl))
 clear hcl;intro hcl
 (simp only [Act.put,zq1,zq2,zq3,zq4,zq5,zq6])
 refine wpAnyL_take (i:=9) (v:=?tv9L5) 13 rfl (by kernel_rfl) (by kernel_rfl) (by kernel_rfl) (by kernel_rfl) (by kernel_rfl) hcl (by exact λ_ _ _ h=>HQp.out _ _ _ _ h) (Or.inl ⟨by rfl,?th9L5⟩) hS ?tr9L5
 (case th9L5=>(intro w hSw;go_simp;with_reducible rfl))
 clear hcl;intro hcl
 (simp only [Act.put,zq1,zq2,zq3,zq4,zq5,zq6])
 refine wpAnyL_take (i:=10) (v:=?tv10L5) 13 rfl (by kernel_rfl) (by kernel_rfl) (by kernel_rfl) (by kernel_rfl) (by kernel_rfl) hcl (by exact λ_ _ _ h=>HQp.out _ _ _ _ h) (Or.inl ⟨by rfl,?th10L5⟩) hS ?tr10L5
 (case th10L5=>(intro w hSw;go_simp;with_reducible rfl))
 clear hcl;intro hcl
 (simp only [Act.put,zq1,zq2,zq3,zq4,zq5,zq6])
 refine wpAnyL_take (i:=11) (v:=?tv11L5) 13 rfl (by kernel_rfl) (by kernel_rfl) (by kernel_rfl) (by kernel_rfl) (by kernel_rfl) hcl (by exact λ_ _ _ h=>HQp.out _ _ _ _ h) (Or.inl ⟨by rfl,?th11L5⟩) hS ?tr11L5
 (case th11L5=>(intro w hSw;go_simp;with_reducible rfl))
 clear hcl;intro hcl
 (simp only [Act.put,zq1,zq2,zq3,zq4,zq5,zq6])
 refine wpAnyL_one (i:=12) (by kernel_rfl) rfl hcl (λK' hK=>?_)
 have HK:=Lib.hid hK;clear hK
 ((rw [if_pos (by kernel_rfl)]);(simp only [zq1,zq2,zq3]);go_big_op)
 refine HK.out _ _ (λh=>by cases h.symm.trans (by kernel_rfl:_=true)) (λ_=>wpAnyL_done (by kernel_rfl) ?_ _)
 clear HK
 (clear hS)
 exact HK.out _ _ _ _ _ _ _ _ _ _ _ _ _ ⟨(blk_set_other nC _ _).trans HC.out,HO.out.grown (Gr.refl _).drew⟩
end Go.Proofs.YtfkokppncipgnaaGreat
