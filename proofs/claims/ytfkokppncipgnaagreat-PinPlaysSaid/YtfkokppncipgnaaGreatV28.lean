/- A reference's play: the regions of roundelayplain.Log's end that draw their order. -/
import Derived.Test.YtfkokppncipgnaaGreatV26
set_option maxRecDepth 100000
set_option linter.unusedVariables false
set_option linter.unusedSimpArgs false
set_option linter.unnecessarySimpa false
namespace Go.Proofs.YtfkokppncipgnaaGreat
open List renaming getElem_toArray → zq1, getElem_cons_zero → zq2, getElem_cons_succ → zq3, setIfInBounds_toArray → zq4, set_cons_zero → zq5, set_cons_succ → zq6
open Go.RowKit
theorem LogA.ev_some {w0 w:World} {J:RJ} {s:RefS} {hl:List Value} {vs:List HV} {L:Value} {ea:Option Addr} {ec:Nat} {ers:List (Value×Value)} (h:LogA w0 w J s hl vs L ea ec ers) {k:Nat} (hk:k<s.evs.length):∃ g,ea=some ⟨g,0,none⟩/\g<w.heap.size/\∀ f,f<8->w.cell? ⟨g,k*8+f,none⟩=(evCells (s.evs.getD k ev0) (ers.getD k vv0))[f]?/\w.frozen? ⟨g,k*8+f,none⟩=false:=by
 obtain⟨g,c,h1,h2,h3⟩:=h.rest.evs.form (by omega)
 simp only [Value.slice.injEq] at h1
 obtain⟨rfl,_,_⟩:=h1
 have hr:=h.rest.evs
 obtain⟨_,_,hty⟩:=row_type hr (b:=g) rfl
 exact⟨g,rfl,blk_lt hty,λf hf=>⟨by rw [hr.cellAt _ (by omega),evRow_get _ _ _ _ h.rest.lens.2.2.2.symm hk hf],hr.frozenAt _⟩⟩
theorem LogM.afterL {w0 w w3:World} {J:RJ} {s:RefS} {hl:List Value} {vs:List HV} {G K L:Value} {ea:Option Addr} {ec:Nat} {ers:List (Value×Value)} {p:Nat} {t t':TapeP} {r r':RWD} {v:Value} {l:List Int} (h:LogM w0 w J p s hl vs G K L ea ec ers t r) (hA:RAtL ⟨w,rids J p hl vs (.slice ea s.evs.length ec),G,K,L⟩ w3 t' r' v l) (ht:t'.thread=t.thread) (hi:t'.inv=t.inv) (hws:0<r'.mem.ws.length) :
  Chg (RSet (rids J p hl vs (.slice ea s.evs.length ec)) G K L) w w3/\∃ G' K' L',LogM w0 w3 J p s hl vs G' K' L' ea ec ers t' r'/\Lst w3 (RMut (rids J p hl vs (.slice ea s.evs.length ec)) G' K' L') v l:=by
 obtain⟨G',K',L',h1,h2,h10⟩:=hA
 refine⟨h2.chg,G',K',L',⟨h1,h.rest.keep h2.chg (λb _ hb=>.inl hb) h2.mut h.ge (λb hb=>?_) (λb hb e=>?_),h.hp,h.opn,ht.trans h.thr,hi.trans h.inv,λb hb=>?_⟩,h10⟩
 ·have hd:=λhx=>h.tape.dis b hx hb
  refine⟨λe=>hd (.inl e),λe=>hd (.inr (.inl (.inl e))),λe=>hd (.inr (.inr (.inl e))),λq hq=>⟨λe=>hd (.inr (.inr (.inr ⟨q,hq,.inl e⟩))),λhP=>⟨λe=>hd (.inr (.inr (.inr ⟨q,hq,.inr ⟨hP,.inl e⟩⟩))),λe=>hd (.inr (.inr (.inr ⟨q,hq,.inr ⟨hP,.inr e⟩⟩)))⟩⟩⟩
 ·obtain⟨PV,LV,KV,ht3,_⟩:=h1.tape
  obtain⟨_,_,_,_,hq⟩:=ht3.mem.blk
  obtain⟨q,rest,e1,_,e2⟩:=hq hws
  have e3:J.bw=some q:=e1
  rw [e] at e3;cases e3
  exact⟨_,_,e2⟩
 ·rcases h2.sub b hb with h9|h9
  ·exact h.ge b h9
  ·exact Nat.le_trans h.rest.below.size h9
theorem LogM.evOf {w0 w:World} {J:RJ} {s:RefS} {hl:List Value} {vs:List HV} {G K L:Value} {ea:Option Addr} {ec:Nat} {ers:List (Value×Value)} {q:Nat} {t:TapeP} {r:RWD} (hM:LogM w0 w J q s hl vs G K L ea ec ers t r):w.cell? ⟨J.bH,q*16+1,none⟩=some (.int .i64 ((s.hands.getD q rh0).ev:Int)):=by
 obtain⟨PV,LV,KV,ht,_⟩:=hM.tape.tape
 have hb:w.heap[J.bH]?=_:=ht.blk
 rw [cell_blk hb]
 have h1:=hM.rest.c1 q hM.hp hM.opn
 have hlen:=hM.rest.lens.1
 have hp:=hM.hp
 show((hl.take (16*q+2)++_).toArray)[q*16+1]?=_
 rw [List.getElem?_toArray,List.getElem?_append_left (by simp;omega),List.getElem?_take_of_lt (by omega),Nat.mul_comm q 16]
 exact h1
def keyTo (l:List Int) (e:EvD):EvD:={ e with key:=l }
theorem late_call {w2 w:World} {J:RJ} {s:RefS} {hl:List Value} {vs:List HV} {L:Value} {ea:Option Addr} {ec:Nat} {ers:List (Value×Value)} {late:CallD->Nat->RHand->RWD->List Int} {nt q k bC:Nat} {kd P Q:Int} (hA:LogA w2 w J s hl vs L ea ec ers) (hq:q<J.nt) (hn:J.nt=nt) (hopn:(s.hands.getD q rh0).opn=true) (hk:k=(s.hands.getD q rh0).ev) (hev:k<s.evs.length) (LC:LateC kd P Q nt late)
  (hN:(s.hands.getD q rh0).got.length<=1000000) (hcnt:s.rw.mem.c.all<=1000000) (hws:0<s.rw.mem.ws.length) (c:CallD) (hcok:CallOk c) (hob:c.obj=0) (hC:w.heap[bC]?=some (.cells (callCs c.thread 0 c.kind c.a c.b c.c) 48 (0,0))) (hCge:w2.heap.size<=bC) :
  ∃ g,ea=some ⟨g,0,none⟩/\Calls Tryz.prog 44 #[.pointer (some ⟨J.bH,q*16+2,none⟩),.int .i64 (nt:Int),.int .i64 0,specV kd P Q,callW c] w.drew λe u=>∃ ka kn kc,e=.returned (.slice ka kn kc)/\u.cell? ⟨J.bO,0,none⟩=some (.slice ea s.evs.length ec)/\u.cell? ⟨J.bH,q*16+1,none⟩=some (.int .i64 (k:Int))/\u.heap[bC]?=some (.cells (callCs c.thread 0 c.kind c.a c.b c.c) 48 (0,0))/\Below w2.heap.size w2 u/\(∃ x,u.cell? ⟨g,k*8+7,none⟩=some x)/\u.frozen? ⟨g,k*8+7,none⟩=false/\
   ∃ hl' vs' L' ers',LogA w2 (u.setCell ⟨g,k*8+7,none⟩ (.slice ka kn kc)) J { s with evs:=modEv s.evs k (keyTo (late c q (s.hands.getD q rh0) s.rw)) } hl' vs' L' ea ec ers':=by
 obtain⟨g,rfl,hgl,_⟩:=hA.ev_some hev
 refine⟨g,rfl,?_⟩
 obtain⟨a,f,ha,PV,er,vl,LV,KV,pl,ll,kl,hT,hPV,hLV,hKV,hale⟩:=hA.tapeAt hq hopn hN
 obtain⟨_,_,_,htl⟩:=(hA.rest.hand q hq trivial).opn hopn
 have hM:=hA.mid (w2:=w) (t:=⟨q,(s.hands.getD q rh0).inv,(s.hands.getD q rh0).got,(s.hands.getD q rh0).ticks,a,f,ha,pl,er,vl,ll,kl⟩) hq hopn hT (Chg.refl _ _) hPV hLV hKV hale htl ⟨by omega,by show(s.hands.getD q rh0).got.length+1<=_;omega⟩ rfl rfl
 have hMd:=hM.grown (Gr.refl w).drew
 have hra:RAt ⟨w.drew,rids J q hl vs (.slice (some ⟨g,0,none⟩) s.evs.length ec),(vs.getD q hv0).1,(vs.getD q hv0).2.1,L⟩ w.drew ⟨q,(s.hands.getD q rh0).inv,(s.hands.getD q rh0).got,(s.hands.getD q rh0).ticks,a,f,ha,pl,er,vl,ll,kl⟩ s.rw:=⟨_,_,_,hMd.tape,RTo.refl _ _ _ _ _⟩
 have hml:s.rw.marks.length=nt:=by rw [<-hn];exact hA.marks.len
 have C:=LC _ w.drew c _ s.rw (s.hands.getD q rh0) hcok hob (by rw [<-hn];exact hq) rfl rfl rfl hml hra
 have hpre:(rids J q hl vs (.slice (some ⟨g,0,none⟩) s.evs.length ec)).pre.length=q*16+2:=by have:=hA.rest.lens.1;show(hl.take (16*q+2)).length=_;simp;omega
 have hpt:(⟨(rids J q hl vs (.slice (some ⟨g,0,none⟩) s.evs.length ec)).tb,(rids J q hl vs (.slice (some ⟨g,0,none⟩) s.evs.length ec)).pre.length,none⟩:Addr)=⟨J.bH,q*16+2,none⟩:=by rw [hpre];rfl
 simp only [hpt] at C
 refine C.mono ?_
 rintro e u ⟨v,t',rfl,hL,h1,h2,h3,h4⟩
 obtain⟨hc,G',K',L',hM',hlst⟩:=hMd.afterL hL h1 h2 hws
 obtain⟨ka,kc,rfl,_⟩:=id hlst
 obtain⟨g',e9,_,hcl⟩:=hM'.ev_some hev
 cases e9
 have hst:=hM'.store (k:=k) (f:=7) (g:=g) (u:=.slice ka (late c q (s.hands.getD q rh0) s.rw).length kc) (e':=keyTo (late c q (s.hands.getD q rh0) s.rw) (s.evs.getD k ev0)) (v':=((ers.getD k vv0).1,.slice ka (late c q (s.hands.getD q rh0) s.rw).length kc)) hev rfl (by omega) (by unfold evCells keyTo;simp) (hM'.rest.lie k hev).1 hlst
 obtain⟨hl',hfin⟩:=hst.close
 have hql:q<s.hands.length:=by rw [hA.rest.lens.2.2.1];exact hq
 have e8:s.hands.set q { s.hands.getD q rh0 with got:=t'.got,ticks:=t'.ticks }=s.hands:=by
  rw [h3,h4]
  show s.hands.set q (s.hands.getD q rh0)=s.hands
  rw [List.getD_eq_getElem?_getD,List.getElem?_eq_getElem hql];simp
 have hfin':LogA w2 (u.setCell ⟨g,k*8+7,none⟩ (.slice ka (late c q (s.hands.getD q rh0) s.rw).length kc)) J { s with evs:=modEv s.evs k (keyTo (late c q (s.hands.getD q rh0) s.rw)) } hl' (vs.set q (G',K',(vs.getD q hv0).2.2)) L' (some ⟨g,0,none⟩) ec (ers.set k ((ers.getD k vv0).1,.slice ka (late c q (s.hands.getD q rh0) s.rw).length kc)):=by
  have h9:=hfin
  simp only [e8] at h9
  exact h9
 have hCn:¬ RSet (rids J q hl vs (.slice (some ⟨g,0,none⟩) s.evs.length ec)) (vs.getD q hv0).1 (vs.getD q hv0).2.1 L bC:=λhb=>hA.notmut hC hCge (by decide) (lmut_of hq (.inl hb))
 refine⟨ka,_,kc,rfl,?_,?_,?_,hM'.rest.below,⟨_,(hcl 7 (by omega)).1.trans rfl⟩,(hcl 7 (by omega)).2,hl',_,L',_,hfin'⟩
 ·rw [cell_blk hM'.rest.out];rfl
 ·rw [hk];exact hM'.evOf
 ·exact(hc.block bC (by have:=blk_lt hC;exact this) hCn).trans hC
set_option maxHeartbeats 4000000 in
theorem log_r42 {w2 w:World} {J:RJ} {s:RefS} {hl:List Value} {vs:List HV} {L:Value} {ea:Option Addr} {ec:Nat} {ers:List (Value×Value)} {cb co ncl cc q k i:Nat} {th ob kn:Int} {xa xb xc:Nat} {x0 x1 x3 x4 x5 x6 x7 x8 x9 x10 x11 x12 x13 x14 x16 x17 x18 x20 x21 x22 x23 x24 x26 x27 x28 x29 x30 x31 x32 x33 x34 x35 x36 x37 x38 x39 x40 x41 x42 x43 x44 x45 x46 x47 x48 x49 x50 x51 x52 x53 x54 x55 x56 x57 x58 x59 x60 x61 x62 x63 x64 x65 x66 x67 x68 x69 x70 x71 x72 x73 x74 x75 x76 x77 x78 x79 x80 x81 x82 x83 x84 x85 x86 x87 x88 x89 x90 x91 x92 x93 x94 x95 x96 x97 x98 x99 x100 x101 x102 x103 x104 x105 x106 x107 x108 x109 x110 x111 x112 x113 x114 x115 x116 x117 x118 x119 x120 x121 x122 x123 x124 x125 x126 x127 x128 x129 x130 x131 x132 x133 x134 x135 x136 x137 x138 x139 x140 x141 x142 x143 x144 x145 x146 x147 x148 x149 x150 x151 x152 x153 x154 x155 x156 x157 x158 x159 x160 x161 x162 x163 x164 x165 x166 x167 x168 x169 x170 x171 x172 x173 x174 x175 x176 x177 x178 x179 x180 x181 x182 x183 x184 x185 x186 x187 x188 x189 x190 x191 x192 x193 x194 x195 x196 x197 x198 x199 x200 x201 x202 x203 x204 x205 x206 x207 x208 x209 x210 x211 x212 x213 x214 x215 x216 x217 x218 x219 x220 x221 x222 x223 x224 x225 x226 x227 x228 x229 x230 x231 x232 x233 x234 x235 x236 x237 x238 x239 x240 x241 x242 x243 x244 x245 x246 x247 x248 x249 x250 x251 x252 x253 x254 x255 x256 x257 x258 x259 x260 x261 x262 x263 x264 x265 x266 x267 x268 x269 x270 x271 x272 x273 x274 x275 x276 x277:Value} {K:Act->World->Prop} {Q0:Exit->Act->World->Prop} {cd:Code} (hcd:cd=logReg 42) (hQp:∀ c d v (a:Act) {w},Q0 (.panic c) (a.put d v) w->Q0 (.panic c) a w) (hA:LogA w2 w J s hl vs L ea ec ers) (hq:q<J.nt) (hopn:(s.hands.getD q rh0).opn=true) (hk:k=(s.hands.getD q rh0).ev) (hev:k<s.evs.length) (hi:i=(s.evs.getD k ev0).call) (hin:i<ncl) (y0:w.cell? ⟨cb,co+i*6,none⟩=some (.int .i64 th)) (y1:w.cell? ⟨cb,co+i*6+1,none⟩=some (.int .i64 ob)) (y2:w.cell? ⟨cb,co+i*6+2,none⟩=some (.int .i64 kn)) (y3:w.cell? ⟨cb,co+i*6+3,none⟩=some (.int .u64 (xa:Int))) (y4:w.cell? ⟨cb,co+i*6+4,none⟩=some (.int .u64 (xb:Int))) (y5:w.cell? ⟨cb,co+i*6+5,none⟩=some (.int .u64 (xc:Int)))
  (hK:∀(y219 y220 y221 y222 y223 y224 y225 y226 y227 y228 y229 y230:Value) (w':World),w'.heap[w.heap.size]?=some (.cells (callCs th ob kn xa xb xc) 48 (0,0))/\Below w.heap.size w w'->K ⟨#[x0,x1,.slice (some ⟨cb,co,none⟩) ncl cc,x3,x4,x5,x6,x7,x8,x9,x10,x11,x12,x13,x14,.pointer (some ⟨J.bW,0,none⟩),x16,x17,x18,.pointer (some ⟨J.bO,0,none⟩),x20,x21,x22,x23,x24,.pointer (some ⟨J.bH,q*16,none⟩),.pointer (some ⟨w.heap.size,0,none⟩),x27,x28,x29,x30,x31,x32,x33,x34,x35,x36,x37,x38,x39,x40,x41,x42,x43,x44,x45,x46,x47,x48,x49,x50,x51,x52,x53,x54,x55,x56,x57,x58,x59,x60,x61,x62,x63,x64,x65,x66,x67,x68,x69,x70,x71,x72,x73,x74,x75,x76,x77,x78,x79,x80,x81,x82,x83,x84,x85,x86,x87,x88,x89,x90,x91,x92,x93,x94,x95,x96,x97,x98,x99,x100,x101,x102,x103,x104,x105,x106,x107,x108,x109,x110,x111,x112,x113,x114,x115,x116,x117,x118,x119,x120,x121,x122,x123,x124,x125,x126,x127,x128,x129,x130,x131,x132,x133,x134,x135,x136,x137,x138,x139,x140,x141,x142,x143,x144,x145,x146,x147,x148,x149,x150,x151,x152,x153,x154,x155,x156,x157,x158,x159,x160,x161,x162,x163,x164,x165,x166,x167,x168,x169,x170,x171,x172,x173,x174,x175,x176,x177,x178,x179,x180,x181,x182,x183,x184,x185,x186,x187,x188,x189,x190,x191,x192,x193,x194,x195,x196,x197,x198,x199,x200,x201,x202,x203,x204,x205,x206,x207,x208,x209,x210,x211,x212,x213,x214,x215,x216,x217,x218,y219,y220,y221,y222,y223,y224,y225,y226,y227,y228,y229,y230,x231,x232,x233,x234,x235,x236,x237,x238,x239,x240,x241,x242,x243,x244,x245,x246,x247,x248,x249,x250,x251,x252,x253,x254,x255,x256,x257,x258,x259,x260,x261,x262,x263,x264,x265,x266,x267,x268,x269,x270,x271,x272,x273,x274,x275,x276,x277],[]⟩ w'):Code.wp Tryz.prog cd (Exit.then K Q0) ⟨#[x0,x1,.slice (some ⟨cb,co,none⟩) ncl cc,x3,x4,x5,x6,x7,x8,x9,x10,x11,x12,x13,x14,.pointer (some ⟨J.bW,0,none⟩),x16,x17,x18,.pointer (some ⟨J.bO,0,none⟩),x20,x21,x22,x23,x24,.pointer (some ⟨J.bH,q*16,none⟩),x26,x27,x28,x29,x30,x31,x32,x33,x34,x35,x36,x37,x38,x39,x40,x41,x42,x43,x44,x45,x46,x47,x48,x49,x50,x51,x52,x53,x54,x55,x56,x57,x58,x59,x60,x61,x62,x63,x64,x65,x66,x67,x68,x69,x70,x71,x72,x73,x74,x75,x76,x77,x78,x79,x80,x81,x82,x83,x84,x85,x86,x87,x88,x89,x90,x91,x92,x93,x94,x95,x96,x97,x98,x99,x100,x101,x102,x103,x104,x105,x106,x107,x108,x109,x110,x111,x112,x113,x114,x115,x116,x117,x118,x119,x120,x121,x122,x123,x124,x125,x126,x127,x128,x129,x130,x131,x132,x133,x134,x135,x136,x137,x138,x139,x140,x141,x142,x143,x144,x145,x146,x147,x148,x149,x150,x151,x152,x153,x154,x155,x156,x157,x158,x159,x160,x161,x162,x163,x164,x165,x166,x167,x168,x169,x170,x171,x172,x173,x174,x175,x176,x177,x178,x179,x180,x181,x182,x183,x184,x185,x186,x187,x188,x189,x190,x191,x192,x193,x194,x195,x196,x197,x198,x199,x200,x201,x202,x203,x204,x205,x206,x207,x208,x209,x210,x211,x212,x213,x214,x215,x216,x217,x218,x219,x220,x221,x222,x223,x224,x225,x226,x227,x228,x229,x230,x231,x232,x233,x234,x235,x236,x237,x238,x239,x240,x241,x242,x243,x244,x245,x246,x247,x248,x249,x250,x251,x252,x253,x254,x255,x256,x257,x258,x259,x260,x261,x262,x263,x264,x265,x266,x267,x268,x269,x270,x271,x272,x273,x274,x275,x276,x277],[]⟩ w:=by
 subst hcd
 have HQp:=Lib.hid hQp;have HK:=Lib.hid hK
 clear hQp hK
 obtain⟨g,rfl,hgl,hgc⟩:=hA.ev_some hev
 have xo:w.cell? ⟨J.bO,0,none⟩=some (.slice (some ⟨g,0,none⟩) s.evs.length ec):=by rw [cell_blk hA.rest.out];rfl
 have xh:w.cell? ⟨J.bH,q*16+1,none⟩=some (.int .i64 (k:Int)):=by rw [cell_blk hA.hb,hk,Nat.mul_comm q 16];simpa using hA.rest.c1 q hq hopn
 have xe:w.cell? ⟨g,k*8,none⟩=some (.int .i64 (i:Int)):=by have h9:=(hgc 0 (by omega)).1;rw [Nat.add_zero] at h9;rw [h9,hi];rfl
 have l1:(k:Int)<(s.evs.length:Int):=by omega
 have l2:¬ (k:Int)<0:=by omega
 have l3:(i:Int)<(ncl:Int):=by omega
 have l4:¬ (i:Int)<0:=by omega
 have lOw:=blk_lt hA.rest.out
 have lHw:=blk_lt hA.hb
 have lcw:cb<w.heap.size:=World.block_lt_of_cell? _ _ y0
 have HY:=Lib.hid (And.intro y0 (And.intro y1 (And.intro y2 (And.intro y3 (And.intro y4 y5)))))
 have XX:=Lib.hid (And.intro xo (And.intro xh xe))
 clear hA hgc hk hi hopn hq
 conv=>arg 2;whnf
 refine wp_region_L ((λu=>u.cell? ⟨J.bO,0,none⟩=some (.slice (some ⟨g,0,none⟩) s.evs.length ec)/\u.cell? ⟨J.bH,q*16+1,none⟩=some (.int .i64 (k:Int))/\u.cell? ⟨g,k*8,none⟩=some (.int .i64 (i:Int))/\u.cell? ⟨cb,co+i*6,none⟩=some (.int .i64 th)/\u.cell? ⟨cb,co+i*6+1,none⟩=some (.int .i64 ob)/\u.cell? ⟨cb,co+i*6+2,none⟩=some (.int .i64 kn)/\u.cell? ⟨cb,co+i*6+3,none⟩=some (.int .u64 (xa:Int))/\u.cell? ⟨cb,co+i*6+4,none⟩=some (.int .u64 (xb:Int))/\u.cell? ⟨cb,co+i*6+5,none⟩=some (.int .u64 (xc:Int)))) 13 (by kernel_rfl) ?hS0L1 ?_
 case hS0L1=>
  (exact⟨xo,xh,xe,y0,y1,y2,y3,y4,y5⟩)
 intro hS hcl
 refine wpAnyL_take (i:=0) (v:=?tv0L1) 14 rfl (by kernel_rfl) (by kernel_rfl) (by kernel_rfl) (by kernel_rfl) (by kernel_rfl) hcl (by exact λ_ _ _ h=>HQp.out _ _ _ _ h) (Or.inl ⟨by rfl,?th0L1⟩) hS ?tr0L1
 (case th0L1=>(intro w hSw;go_simp;with_reducible rfl))
 clear hcl;intro hcl
 (simp only [Act.put,zq1,zq2,zq3,zq4,zq5,zq6])
 refine wpAnyL_take (i:=1) (v:=?tv1L1) 14 rfl (by kernel_rfl) (by kernel_rfl) (by kernel_rfl) (by kernel_rfl) (by kernel_rfl) hcl (by exact λ_ _ _ h=>HQp.out _ _ _ _ h) (Or.inl ⟨by rfl,?th1L1⟩) hS ?tr1L1
 (case th1L1=>(intro w hSw;go_simp;with_reducible rfl))
 clear hcl;intro hcl
 (simp only [Act.put,zq1,zq2,zq3,zq4,zq5,zq6])
 refine wpAnyL_take (i:=2) (v:=?tv2L1) 14 rfl (by kernel_rfl) (by kernel_rfl) (by kernel_rfl) (by kernel_rfl) (by kernel_rfl) hcl (by exact λ_ _ _ h=>HQp.out _ _ _ _ h) (Or.inl ⟨by rfl,?th2L1⟩) hS ?tr2L1
 (case th2L1=>(intro w hSw;go_simp;with_reducible rfl))
 clear hcl;intro hcl
 (simp only [Act.put,zq1,zq2,zq3,zq4,zq5,zq6])
 refine wpAnyL_take (i:=3) (v:=?tv3L1) 14 rfl (by kernel_rfl) (by kernel_rfl) (by kernel_rfl) (by kernel_rfl) (by kernel_rfl) hcl (by exact λ_ _ _ h=>HQp.out _ _ _ _ h) (Or.inl ⟨by rfl,?th3L1⟩) hS ?tr3L1
 (case th3L1=>(intro w hSw;go_simp;with_reducible rfl))
 clear hcl;intro hcl
 (simp only [Act.put,zq1,zq2,zq3,zq4,zq5,zq6])
 refine wpAnyL_take (i:=4) (v:=?tv4L1) 14 rfl (by kernel_rfl) (by kernel_rfl) (by kernel_rfl) (by kernel_rfl) (by kernel_rfl) hcl (by exact λ_ _ _ h=>HQp.out _ _ _ _ h) (Or.inl ⟨by rfl,?th4L1⟩) hS ?tr4L1
 (case th4L1=>(intro w hSw;go_simp;with_reducible rfl))
 clear hcl;intro hcl
 (simp only [Act.put,zq1,zq2,zq3,zq4,zq5,zq6])
 refine wpAnyL_take (i:=5) (v:=?tv5L1) 14 rfl (by kernel_rfl) (by kernel_rfl) (by kernel_rfl) (by kernel_rfl) (by kernel_rfl) hcl (by exact λ_ _ _ h=>HQp.out _ _ _ _ h) (Or.inl ⟨by rfl,?th5L1⟩) hS ?tr5L1
 (case th5L1=>(intro w hSw;go_simp;with_reducible rfl))
 clear hcl;intro hcl
 (simp only [Act.put,zq1,zq2,zq3,zq4,zq5,zq6])
 refine wpAnyL_take (i:=6) (v:=?tv6L1) 14 rfl (by kernel_rfl) (by kernel_rfl) (by kernel_rfl) (by kernel_rfl) (by kernel_rfl) hcl (by exact λ_ _ _ h=>HQp.out _ _ _ _ h) (Or.inl ⟨by rfl,?th6L1⟩) hS ?tr6L1
 (case th6L1=>(intro w hSw;go_simp;with_reducible rfl))
 clear hcl;intro hcl
 (simp only [Act.put,zq1,zq2,zq3,zq4,zq5,zq6])
 refine wpAnyL_take (i:=7) (v:=?tv7L1) 14 rfl (by kernel_rfl) (by kernel_rfl) (by kernel_rfl) (by kernel_rfl) (by kernel_rfl) hcl (by exact λ_ _ _ h=>HQp.out _ _ _ _ h) (Or.inl ⟨by rfl,?th7L1⟩) hS ?tr7L1
 (case th7L1=>(intro w hSw;go_simp;with_reducible rfl))
 clear hcl;intro hcl
 (simp only [Act.put,zq1,zq2,zq3,zq4,zq5,zq6])
 refine wpAnyL_take (i:=8) (v:=?tv8L1) 14 rfl (by kernel_rfl) (by kernel_rfl) (by kernel_rfl) (by kernel_rfl) (by kernel_rfl) hcl (by exact λ_ _ _ h=>HQp.out _ _ _ _ h) (Or.inl ⟨by rfl,?th8L1⟩) hS ?tr8L1
 (case th8L1=>(intro w hSw;go_simp;with_reducible rfl))
 clear hcl;intro hcl
 (simp only [Act.put,zq1,zq2,zq3,zq4,zq5,zq6])
 refine wpAnyL_take (i:=9) (v:=?tv9L1) 14 rfl (by kernel_rfl) (by kernel_rfl) (by kernel_rfl) (by kernel_rfl) (by kernel_rfl) hcl (by exact λ_ _ _ h=>HQp.out _ _ _ _ h) (Or.inl ⟨by rfl,?th9L1⟩) hS ?tr9L1
 (case th9L1=>(intro w hSw;go_simp;with_reducible rfl))
 clear hcl;intro hcl
 (simp only [Act.put,zq1,zq2,zq3,zq4,zq5,zq6])
 refine wpAnyL_take (i:=10) (v:=?tv10L1) 14 rfl (by kernel_rfl) (by kernel_rfl) (by kernel_rfl) (by kernel_rfl) (by kernel_rfl) hcl (by exact λ_ _ _ h=>HQp.out _ _ _ _ h) (Or.inl ⟨by rfl,?th10L1⟩) hS ?tr10L1
 (case th10L1=>(intro w hSw;go_simp;with_reducible rfl))
 clear hcl;intro hcl
 (simp only [Act.put,zq1,zq2,zq3,zq4,zq5,zq6])
 refine wpAnyL_take (i:=11) (v:=?tv11L1) 14 rfl (by kernel_rfl) (by kernel_rfl) (by kernel_rfl) (by kernel_rfl) (by kernel_rfl) hcl (by exact λ_ _ _ h=>HQp.out _ _ _ _ h) (Or.inl ⟨by rfl,?th11L1⟩) hS ?tr11L1
 (case th11L1=>(intro w hSw;go_simp;with_reducible rfl))
 clear hcl;intro hcl
 (simp only [Act.put,zq1,zq2,zq3,zq4,zq5,zq6])
 refine wpAnyL_one (i:=12) (by kernel_rfl) rfl hcl (λK' hK=>?_)
 have HK:=Lib.hid hK;clear hK
 ((rw [if_pos (by kernel_rfl)]);(simp only [zq1,zq2,zq3]);go_big_op)
 refine HK.out _ _ ?hS12L1 (λhcl=>?_)
 case hS12L1=>
  intro _
  (exact⟨((Gr.new w _).drew.cell lOw).trans xo,((Gr.new w _).drew.cell lHw).trans xh,((Gr.new w _).drew.cell hgl).trans xe,((Gr.new w _).drew.cell lcw).trans y0,((Gr.new w _).drew.cell lcw).trans y1,((Gr.new w _).drew.cell lcw).trans y2,((Gr.new w _).drew.cell lcw).trans y3,((Gr.new w _).drew.cell lcw).trans y4,((Gr.new w _).drew.cell lcw).trans y5⟩)
 clear HK
 refine wpAnyL_one (i:=13) (by kernel_rfl) rfl hcl (λK' hK=>?_)
 have HK:=Lib.hid hK;clear hK
 ((rw [if_pos (by kernel_rfl)]);(simp only [zq1,zq2,zq3]);go_big_op)
 refine HK.out _ _ (λh=>by cases h.symm.trans (by kernel_rfl:_=true)) (λ_=>wpAnyL_done (by kernel_rfl) ?_ _)
 clear HK
 (clear hS)
 exact HK.out _ _ _ _ _ _ _ _ _ _ _ _ _ ⟨heap_alloc_new _ _,(Gr.new w _).drew⟩
set_option maxHeartbeats 4000000 in
theorem log_r43 {w2 w:World} {J:RJ} {s:RefS} {hl:List Value} {vs:List HV} {L:Value} {ea:Option Addr} {ec:Nat} {ers:List (Value×Value)} {late:CallD->Nat->RHand->RWD->List Int} {nt q k bC bS g0 gc:Nat} {kd P Q:Int} {th kn:Int} {xa xb xc:Nat} {x2 x3 x4 x5 x6 x7 x8 x9 x10 x11 x13 x14 x16 x17 x18 x20 x21 x22 x23 x24 x27 x28 x29 x30 x31 x32 x33 x34 x35 x36 x37 x38 x39 x40 x41 x42 x43 x44 x45 x46 x47 x48 x49 x50 x51 x52 x53 x54 x55 x56 x57 x58 x59 x60 x61 x62 x63 x64 x65 x66 x67 x68 x69 x70 x71 x72 x73 x74 x75 x76 x77 x78 x79 x80 x81 x82 x83 x84 x85 x86 x87 x88 x89 x90 x91 x92 x93 x94 x95 x96 x97 x98 x99 x100 x101 x102 x103 x104 x105 x106 x107 x108 x109 x110 x111 x112 x113 x114 x115 x116 x117 x118 x119 x120 x121 x122 x123 x124 x125 x126 x127 x128 x129 x130 x131 x132 x133 x134 x135 x136 x137 x138 x139 x140 x141 x142 x143 x144 x145 x146 x147 x148 x149 x150 x151 x152 x153 x154 x155 x156 x157 x158 x159 x160 x161 x162 x163 x164 x165 x166 x167 x168 x169 x170 x171 x172 x173 x174 x175 x176 x177 x178 x179 x180 x181 x182 x183 x184 x185 x186 x187 x188 x189 x190 x191 x192 x193 x194 x195 x196 x197 x198 x199 x200 x201 x202 x203 x204 x205 x206 x207 x208 x209 x210 x211 x212 x213 x214 x215 x216 x217 x218 x219 x220 x221 x222 x223 x224 x225 x226 x227 x228 x229 x230 x231 x232 x233 x234 x235 x236 x237 x238 x239 x240 x241 x242 x243 x244 x245 x246 x247 x248 x249 x250 x251 x252 x253 x254 x255 x256 x257 x258 x259 x260 x261 x262 x263 x264 x265 x266 x267 x268 x269 x270 x271 x272 x273 x274 x275 x276 x277:Value} {Q0:Exit->Act->World->Prop} {cd:Code} (hcd:cd=logReg 43) (hQp:∀ c d v (a:Act) {w},Q0 (.panic c) (a.put d v) w->Q0 (.panic c) a w) (hA:LogA w2 w J s hl vs L ea ec ers) (hq:q<J.nt) (hn:J.nt=nt) (hopn:(s.hands.getD q rh0).opn=true) (hk:k=(s.hands.getD q rh0).ev) (hev:k<s.evs.length) (LC:LateC kd P Q nt late) (hN:(s.hands.getD q rh0).got.length<=1000000) (hcnt:s.rw.mem.c.all<=1000000) (hws:0<s.rw.mem.ws.length) (hcok:CallOk ⟨th,0,kn,xa,xb,xc⟩) (hC:w.heap[bC]?=some (.cells (callCs th 0 kn xa xb xc) 48 (0,0))) (hCge:w2.heap.size<=bC) (hS:SpecAt w2 bS kd P Q) (hg0:w2.cell? ⟨g0,0,none⟩=some (.int .i64 0))
  (hK:∀(y231 y232 y233 y234 y235 y236 y237 y238 y239 y240 y241 y242 y243 y244 y245 y246 y247 y248 y249 y250 y251 y252 y253 y254:Value) (w':World),(∃ hl' vs' L' ers',LogA w2 w' J { s with evs:=modEv s.evs k (keyTo (late ⟨th,0,kn,xa,xb,xc⟩ q (s.hands.getD q rh0) s.rw)) } hl' vs' L' ea ec ers')->Q0 .normal ⟨#[.int .i64 (nt:Int),.slice (some ⟨bS,0,none⟩) 1 1,x2,x3,x4,x5,x6,x7,x8,x9,x10,x11,.slice (some ⟨g0,0,none⟩) 1 gc,x13,x14,.pointer (some ⟨J.bW,0,none⟩),x16,x17,x18,.pointer (some ⟨J.bO,0,none⟩),x20,x21,x22,x23,x24,.pointer (some ⟨J.bH,q*16,none⟩),.pointer (some ⟨bC,0,none⟩),x27,x28,x29,x30,x31,x32,x33,x34,x35,x36,x37,x38,x39,x40,x41,x42,x43,x44,x45,x46,x47,x48,x49,x50,x51,x52,x53,x54,x55,x56,x57,x58,x59,x60,x61,x62,x63,x64,x65,x66,x67,x68,x69,x70,x71,x72,x73,x74,x75,x76,x77,x78,x79,x80,x81,x82,x83,x84,x85,x86,x87,x88,x89,x90,x91,x92,x93,x94,x95,x96,x97,x98,x99,x100,x101,x102,x103,x104,x105,x106,x107,x108,x109,x110,x111,x112,x113,x114,x115,x116,x117,x118,x119,x120,x121,x122,x123,x124,x125,x126,x127,x128,x129,x130,x131,x132,x133,x134,x135,x136,x137,x138,x139,x140,x141,x142,x143,x144,x145,x146,x147,x148,x149,x150,x151,x152,x153,x154,x155,x156,x157,x158,x159,x160,x161,x162,x163,x164,x165,x166,x167,x168,x169,x170,x171,x172,x173,x174,x175,x176,x177,x178,x179,x180,x181,x182,x183,x184,x185,x186,x187,x188,x189,x190,x191,x192,x193,x194,x195,x196,x197,x198,x199,x200,x201,x202,x203,x204,x205,x206,x207,x208,x209,x210,x211,x212,x213,x214,x215,x216,x217,x218,x219,x220,x221,x222,x223,x224,x225,x226,x227,x228,x229,x230,y231,y232,y233,y234,y235,y236,y237,y238,y239,y240,y241,y242,y243,y244,y245,y246,y247,y248,y249,y250,y251,y252,y253,y254,x255,x256,x257,x258,x259,x260,x261,x262,x263,x264,x265,x266,x267,x268,x269,x270,x271,x272,x273,x274,x275,x276,x277],[]⟩ w'):Code.wp Tryz.prog cd Q0 ⟨#[.int .i64 (nt:Int),.slice (some ⟨bS,0,none⟩) 1 1,x2,x3,x4,x5,x6,x7,x8,x9,x10,x11,.slice (some ⟨g0,0,none⟩) 1 gc,x13,x14,.pointer (some ⟨J.bW,0,none⟩),x16,x17,x18,.pointer (some ⟨J.bO,0,none⟩),x20,x21,x22,x23,x24,.pointer (some ⟨J.bH,q*16,none⟩),.pointer (some ⟨bC,0,none⟩),x27,x28,x29,x30,x31,x32,x33,x34,x35,x36,x37,x38,x39,x40,x41,x42,x43,x44,x45,x46,x47,x48,x49,x50,x51,x52,x53,x54,x55,x56,x57,x58,x59,x60,x61,x62,x63,x64,x65,x66,x67,x68,x69,x70,x71,x72,x73,x74,x75,x76,x77,x78,x79,x80,x81,x82,x83,x84,x85,x86,x87,x88,x89,x90,x91,x92,x93,x94,x95,x96,x97,x98,x99,x100,x101,x102,x103,x104,x105,x106,x107,x108,x109,x110,x111,x112,x113,x114,x115,x116,x117,x118,x119,x120,x121,x122,x123,x124,x125,x126,x127,x128,x129,x130,x131,x132,x133,x134,x135,x136,x137,x138,x139,x140,x141,x142,x143,x144,x145,x146,x147,x148,x149,x150,x151,x152,x153,x154,x155,x156,x157,x158,x159,x160,x161,x162,x163,x164,x165,x166,x167,x168,x169,x170,x171,x172,x173,x174,x175,x176,x177,x178,x179,x180,x181,x182,x183,x184,x185,x186,x187,x188,x189,x190,x191,x192,x193,x194,x195,x196,x197,x198,x199,x200,x201,x202,x203,x204,x205,x206,x207,x208,x209,x210,x211,x212,x213,x214,x215,x216,x217,x218,x219,x220,x221,x222,x223,x224,x225,x226,x227,x228,x229,x230,x231,x232,x233,x234,x235,x236,x237,x238,x239,x240,x241,x242,x243,x244,x245,x246,x247,x248,x249,x250,x251,x252,x253,x254,x255,x256,x257,x258,x259,x260,x261,x262,x263,x264,x265,x266,x267,x268,x269,x270,x271,x272,x273,x274,x275,x276,x277],[]⟩ w:=by
 subst hcd
 have HQp:=Lib.hid hQp;have HK:=Lib.hid hK
 clear hQp hK
 obtain⟨g,rfl,LL⟩:=late_call hA hq hn hopn hk hev LC hN hcnt hws ⟨th,0,kn,xa,xb,xc⟩ hcok rfl hC hCge
 have hbel:=hA.rest.below
 have xo:w.cell? ⟨J.bO,0,none⟩=some (.slice (some ⟨g,0,none⟩) s.evs.length ec):=by rw [cell_blk hA.rest.out];rfl
 have xh:w.cell? ⟨J.bH,q*16+1,none⟩=some (.int .i64 (k:Int)):=by rw [cell_blk hA.hb,hk,Nat.mul_comm q 16];simpa using hA.rest.c1 q hq hopn
 have l1:(k:Int)<(s.evs.length:Int):=by omega
 have l2:¬ (k:Int)<0:=by omega
 have cs:∀ u:World,u.heap[bC]?=some (.cells (callCs th 0 kn xa xb xc) 48 (0,0))->Below w2.heap.size w2 u->u.cell? ⟨bC,0,none⟩=some (.int .i64 th)/\u.cell? ⟨bC,1,none⟩=some (.int .i64 0)/\u.cell? ⟨bC,2,none⟩=some (.int .i64 kn)/\u.cell? ⟨bC,3,none⟩=some (.int .u64 (xa:Int))/\u.cell? ⟨bC,4,none⟩=some (.int .u64 (xb:Int))/\u.cell? ⟨bC,5,none⟩=some (.int .u64 (xc:Int))/\u.cell? ⟨g0,0,none⟩=some (.int .i64 0)/\u.cell? ⟨bS,0,none⟩=some (.int .i64 kd)/\u.cell? ⟨bS,1,none⟩=some (.int .i64 P)/\u.cell? ⟨bS,2,none⟩=some (.int .i64 Q):=λu hu hb=>by
  have hS':=hS.grown hb
  exact⟨by rw [cell_blk hu];rfl,by rw [cell_blk hu];rfl,by rw [cell_blk hu];rfl,by rw [cell_blk hu];rfl,by rw [cell_blk hu];rfl,by rw [cell_blk hu];rfl,(hb.cell (World.block_lt_of_cell? _ _ hg0)).trans hg0,by rw [cell_blk hS'.blk];rfl,by rw [cell_blk hS'.blk];rfl,by rw [cell_blk hS'.blk];rfl⟩
 obtain⟨y0,y1,y2,y3,y4,y5,y6,y7,y8,y9⟩:=cs w hC hbel
 have CS:=Lib.hid cs
 have HL:=Lib.hid LL
 unfold specV callW at HL
 clear hA LC LL hC hS hg0 cs hk hopn hq hn hN hcnt hws hcok hbel
 conv=>arg 2;whnf
 refine wp_region_L ((λu=>u.cell? ⟨J.bO,0,none⟩=some (.slice (some ⟨g,0,none⟩) s.evs.length ec)/\u.cell? ⟨J.bH,q*16+1,none⟩=some (.int .i64 (k:Int))/\u.cell? ⟨bC,0,none⟩=some (.int .i64 th)/\u.cell? ⟨bC,1,none⟩=some (.int .i64 0)/\u.cell? ⟨bC,2,none⟩=some (.int .i64 kn)/\u.cell? ⟨bC,3,none⟩=some (.int .u64 (xa:Int))/\u.cell? ⟨bC,4,none⟩=some (.int .u64 (xb:Int))/\u.cell? ⟨bC,5,none⟩=some (.int .u64 (xc:Int))/\u.cell? ⟨g0,0,none⟩=some (.int .i64 0)/\u.cell? ⟨bS,0,none⟩=some (.int .i64 kd)/\u.cell? ⟨bS,1,none⟩=some (.int .i64 P)/\u.cell? ⟨bS,2,none⟩=some (.int .i64 Q))) 24 (by kernel_rfl) ?hS0L2 ?_
 case hS0L2=>
  (exact⟨xo,xh,y0,y1,y2,y3,y4,y5,y6,y7,y8,y9⟩)
 intro hS hcl
 refine wpAnyL_take (i:=0) (v:=?tv0L2) 25 rfl (by kernel_rfl) (by kernel_rfl) (by kernel_rfl) (by kernel_rfl) (by kernel_rfl) hcl (by exact λ_ _ _ h=>HQp.out _ _ _ _ h) (Or.inl ⟨by rfl,?th0L2⟩) hS ?tr0L2
 (case th0L2=>(intro w hSw;go_simp;with_reducible rfl))
 clear hcl;intro hcl
 (simp only [Act.put,zq1,zq2,zq3,zq4,zq5,zq6])
 refine wpAnyL_take (i:=1) (v:=?tv1L2) 25 rfl (by kernel_rfl) (by kernel_rfl) (by kernel_rfl) (by kernel_rfl) (by kernel_rfl) hcl (by exact λ_ _ _ h=>HQp.out _ _ _ _ h) (Or.inl ⟨by rfl,?th1L2⟩) hS ?tr1L2
 (case th1L2=>(intro w hSw;go_simp;with_reducible rfl))
 clear hcl;intro hcl
 (simp only [Act.put,zq1,zq2,zq3,zq4,zq5,zq6])
 refine wpAnyL_take (i:=2) (v:=?tv2L2) 25 rfl (by kernel_rfl) (by kernel_rfl) (by kernel_rfl) (by kernel_rfl) (by kernel_rfl) hcl (by exact λ_ _ _ h=>HQp.out _ _ _ _ h) (Or.inl ⟨by rfl,?th2L2⟩) hS ?tr2L2
 (case th2L2=>(intro w hSw;go_simp;with_reducible rfl))
 clear hcl;intro hcl
 (simp only [Act.put,zq1,zq2,zq3,zq4,zq5,zq6])
 refine wpAnyL_take (i:=3) (v:=?tv3L2) 25 rfl (by kernel_rfl) (by kernel_rfl) (by kernel_rfl) (by kernel_rfl) (by kernel_rfl) hcl (by exact λ_ _ _ h=>HQp.out _ _ _ _ h) (Or.inl ⟨by rfl,?th3L2⟩) hS ?tr3L2
 (case th3L2=>(intro w hSw;go_simp;with_reducible rfl))
 clear hcl;intro hcl
 (simp only [Act.put,zq1,zq2,zq3,zq4,zq5,zq6])
 refine wpAnyL_take (i:=4) (v:=?tv4L2) 25 rfl (by kernel_rfl) (by kernel_rfl) (by kernel_rfl) (by kernel_rfl) (by kernel_rfl) hcl (by exact λ_ _ _ h=>HQp.out _ _ _ _ h) (Or.inl ⟨by rfl,?th4L2⟩) hS ?tr4L2
 (case th4L2=>(intro w hSw;go_simp;with_reducible rfl))
 clear hcl;intro hcl
 (simp only [Act.put,zq1,zq2,zq3,zq4,zq5,zq6])
 refine wpAnyL_take (i:=5) (v:=?tv5L2) 25 rfl (by kernel_rfl) (by kernel_rfl) (by kernel_rfl) (by kernel_rfl) (by kernel_rfl) hcl (by exact λ_ _ _ h=>HQp.out _ _ _ _ h) (Or.inl ⟨by rfl,?th5L2⟩) hS ?tr5L2
 (case th5L2=>(intro w hSw;go_simp;with_reducible rfl))
 clear hcl;intro hcl
 (simp only [Act.put,zq1,zq2,zq3,zq4,zq5,zq6])
 refine wpAnyL_take (i:=6) (v:=?tv6L2) 25 rfl (by kernel_rfl) (by kernel_rfl) (by kernel_rfl) (by kernel_rfl) (by kernel_rfl) hcl (by exact λ_ _ _ h=>HQp.out _ _ _ _ h) (Or.inl ⟨by rfl,?th6L2⟩) hS ?tr6L2
 (case th6L2=>(intro w hSw;go_simp;with_reducible rfl))
 clear hcl;intro hcl
 (simp only [Act.put,zq1,zq2,zq3,zq4,zq5,zq6])
 refine wpAnyL_take (i:=7) (v:=?tv7L2) 25 rfl (by kernel_rfl) (by kernel_rfl) (by kernel_rfl) (by kernel_rfl) (by kernel_rfl) hcl (by exact λ_ _ _ h=>HQp.out _ _ _ _ h) (Or.inl ⟨by rfl,?th7L2⟩) hS ?tr7L2
 (case th7L2=>(intro w hSw;go_simp;with_reducible rfl))
 clear hcl;intro hcl
 (simp only [Act.put,zq1,zq2,zq3,zq4,zq5,zq6])
 refine wpAnyL_take (i:=8) (v:=?tv8L2) 25 rfl (by kernel_rfl) (by kernel_rfl) (by kernel_rfl) (by kernel_rfl) (by kernel_rfl) hcl (by exact λ_ _ _ h=>HQp.out _ _ _ _ h) (Or.inl ⟨by rfl,?th8L2⟩) hS ?tr8L2
 (case th8L2=>(intro w hSw;go_simp;with_reducible rfl))
 clear hcl;intro hcl
 (simp only [Act.put,zq1,zq2,zq3,zq4,zq5,zq6])
 refine wpAnyL_take (i:=9) (v:=?tv9L2) 25 rfl (by kernel_rfl) (by kernel_rfl) (by kernel_rfl) (by kernel_rfl) (by kernel_rfl) hcl (by exact λ_ _ _ h=>HQp.out _ _ _ _ h) (Or.inl ⟨by rfl,?th9L2⟩) hS ?tr9L2
 (case th9L2=>(intro w hSw;go_simp;with_reducible rfl))
 clear hcl;intro hcl
 (simp only [Act.put,zq1,zq2,zq3,zq4,zq5,zq6])
 refine wpAnyL_take (i:=10) (v:=?tv10L2) 25 rfl (by kernel_rfl) (by kernel_rfl) (by kernel_rfl) (by kernel_rfl) (by kernel_rfl) hcl (by exact λ_ _ _ h=>HQp.out _ _ _ _ h) (Or.inl ⟨by rfl,?th10L2⟩) hS ?tr10L2
 (case th10L2=>(intro w hSw;go_simp;with_reducible rfl))
 clear hcl;intro hcl
 (simp only [Act.put,zq1,zq2,zq3,zq4,zq5,zq6])
 refine wpAnyL_take (i:=11) (v:=?tv11L2) 25 rfl (by kernel_rfl) (by kernel_rfl) (by kernel_rfl) (by kernel_rfl) (by kernel_rfl) hcl (by exact λ_ _ _ h=>HQp.out _ _ _ _ h) (Or.inl ⟨by rfl,?th11L2⟩) hS ?tr11L2
 (case th11L2=>(intro w hSw;go_simp;with_reducible rfl))
 clear hcl;intro hcl
 (simp only [Act.put,zq1,zq2,zq3,zq4,zq5,zq6])
 refine wpAnyL_take (i:=12) (v:=?tv12L2) 25 rfl (by kernel_rfl) (by kernel_rfl) (by kernel_rfl) (by kernel_rfl) (by kernel_rfl) hcl (by exact λ_ _ _ h=>HQp.out _ _ _ _ h) (Or.inl ⟨by rfl,?th12L2⟩) hS ?tr12L2
 (case th12L2=>(intro w hSw;go_simp;with_reducible rfl))
 clear hcl;intro hcl
 (simp only [Act.put,zq1,zq2,zq3,zq4,zq5,zq6])
 refine wpAnyL_take (i:=13) (v:=?tv13L2) 25 rfl (by kernel_rfl) (by kernel_rfl) (by kernel_rfl) (by kernel_rfl) (by kernel_rfl) hcl (by exact λ_ _ _ h=>HQp.out _ _ _ _ h) (Or.inl ⟨by rfl,?th13L2⟩) hS ?tr13L2
 (case th13L2=>(intro w hSw;go_simp;with_reducible rfl))
 clear hcl;intro hcl
 (simp only [Act.put,zq1,zq2,zq3,zq4,zq5,zq6])
 refine wpAnyL_take (i:=14) (v:=?tv14L2) 25 rfl (by kernel_rfl) (by kernel_rfl) (by kernel_rfl) (by kernel_rfl) (by kernel_rfl) hcl (by exact λ_ _ _ h=>HQp.out _ _ _ _ h) (Or.inl ⟨by rfl,?th14L2⟩) hS ?tr14L2
 (case th14L2=>(intro w hSw;go_simp;with_reducible rfl))
 clear hcl;intro hcl
 (simp only [Act.put,zq1,zq2,zq3,zq4,zq5,zq6])
 refine wpAnyL_take (i:=15) (v:=?tv15L2) 25 rfl (by kernel_rfl) (by kernel_rfl) (by kernel_rfl) (by kernel_rfl) (by kernel_rfl) hcl (by exact λ_ _ _ h=>HQp.out _ _ _ _ h) (Or.inl ⟨by rfl,?th15L2⟩) hS ?tr15L2
 (case th15L2=>(intro w hSw;go_simp;with_reducible rfl))
 clear hcl;intro hcl
 (simp only [Act.put,zq1,zq2,zq3,zq4,zq5,zq6])
 refine wpAnyL_take (i:=16) (v:=?tv16L2) 25 rfl (by kernel_rfl) (by kernel_rfl) (by kernel_rfl) (by kernel_rfl) (by kernel_rfl) hcl (by exact λ_ _ _ h=>HQp.out _ _ _ _ h) (Or.inl ⟨by rfl,?th16L2⟩) hS ?tr16L2
 (case th16L2=>(intro w hSw;go_simp;with_reducible rfl))
 clear hcl;intro hcl
 (simp only [Act.put,zq1,zq2,zq3,zq4,zq5,zq6])
 refine wpAnyL_take (i:=17) (v:=?tv17L2) 25 rfl (by kernel_rfl) (by kernel_rfl) (by kernel_rfl) (by kernel_rfl) (by kernel_rfl) hcl (by exact λ_ _ _ h=>HQp.out _ _ _ _ h) (Or.inl ⟨by rfl,?th17L2⟩) hS ?tr17L2
 (case th17L2=>(intro w hSw;go_simp;with_reducible rfl))
 clear hcl;intro hcl
 (simp only [Act.put,zq1,zq2,zq3,zq4,zq5,zq6])
 refine wpAnyL_take (i:=18) (v:=?tv18L2) 25 rfl (by kernel_rfl) (by kernel_rfl) (by kernel_rfl) (by kernel_rfl) (by kernel_rfl) hcl (by exact λ_ _ _ h=>HQp.out _ _ _ _ h) (Or.inl ⟨by rfl,?th18L2⟩) hS ?tr18L2
 (case th18L2=>(intro w hSw;go_simp;with_reducible rfl))
 clear hcl;intro hcl
 (simp only [Act.put,zq1,zq2,zq3,zq4,zq5,zq6])
 refine wpAnyL_take (i:=19) (v:=?tv19L2) 25 rfl (by kernel_rfl) (by kernel_rfl) (by kernel_rfl) (by kernel_rfl) (by kernel_rfl) hcl (by exact λ_ _ _ h=>HQp.out _ _ _ _ h) (Or.inl ⟨by rfl,?th19L2⟩) hS ?tr19L2
 (case th19L2=>(intro w hSw;go_simp;with_reducible rfl))
 clear hcl;intro hcl
 (simp only [Act.put,zq1,zq2,zq3,zq4,zq5,zq6])
 refine wpAnyL_take (i:=20) (v:=?tv20L2) 25 rfl (by kernel_rfl) (by kernel_rfl) (by kernel_rfl) (by kernel_rfl) (by kernel_rfl) hcl (by exact λ_ _ _ h=>HQp.out _ _ _ _ h) (Or.inl ⟨by rfl,?th20L2⟩) hS ?tr20L2
 (case th20L2=>(intro w hSw;go_simp;with_reducible rfl))
 clear hcl;intro hcl
 (simp only [Act.put,zq1,zq2,zq3,zq4,zq5,zq6])
 refine wpAnyL_one (i:=21) (by kernel_rfl) rfl hcl (λK' hK=>?_)
 have HK:=Lib.hid hK;clear hK
 ((rw [if_pos (by kernel_rfl)]);(simp only [zq1,zq2,zq3]);go_big_op)
 (go_at_call 44;refine HL.out.mono ?_;rintro e9 w9 ⟨ka,kn9,kc,rfl,zo,zh,hC9,hb9,⟨x9,zx⟩,zf,hl',vs',L',ers',hA9⟩;obtain⟨z0,z1,z2,z3,z4,z5,z6,z7,z8,z9⟩:=CS.out w9 hC9 hb9)
 refine HK.out _ _ ?hS21L2 (λhcl=>?_)
 case hS21L2=>
  intro _
  (exact⟨zo,zh,z0,z1,z2,z3,z4,z5,z6,z7,z8,z9⟩)
 clear HK
 refine wpAnyL_one (i:=22) (by kernel_rfl) rfl hcl (λK' hK=>?_)
 have HK:=Lib.hid hK;clear hK
 ((rw [if_pos (by kernel_rfl)]);(simp only [zq1,zq2,zq3]);go_big_op)
 refine HK.out _ _ ?hS22L2 (λhcl=>?_)
 case hS22L2=>
  intro _
  (exact⟨zo,zh,z0,z1,z2,z3,z4,z5,z6,z7,z8,z9⟩)
 clear HK
 refine wpAnyL_one (i:=23) (by kernel_rfl) rfl hcl (λK' hK=>?_)
 have HK:=Lib.hid hK;clear hK
 ((rw [if_pos (by kernel_rfl)]);(simp only [zq1,zq2,zq3]);go_big_op)
 refine HK.out _ _ ?hS23L2 (λhcl=>?_)
 case hS23L2=>
  intro _
  (exact⟨zo,zh,z0,z1,z2,z3,z4,z5,z6,z7,z8,z9⟩)
 clear HK
 refine wpAnyL_one (i:=24) (by kernel_rfl) rfl hcl (λK' hK=>?_)
 have HK:=Lib.hid hK;clear hK
 ((rw [if_pos (by kernel_rfl)]);(simp only [zq1,zq2,zq3]);go_big_op)
 refine HK.out _ _ (λh=>by cases h.symm.trans (by kernel_rfl:_=true)) (λ_=>wpAnyL_done (by kernel_rfl) ?_ _)
 clear HK
 (clear hS)
 exact HK.out _ _ _ _ _ _ _ _ _ _ _ _ _ _ _ _ _ _ _ _ _ _ _ _ _ ⟨hl',vs',L',ers',hA9⟩
set_option maxHeartbeats 4000000 in
theorem log_r48 {w:World} {bR bW bO:Nat} {ea va la:Option Addr} {en ec vn vc ln lc:Nat} {rp:RepD} {x0 x1 x2 x3 x4 x5 x6 x7 x9 x10 x11 x12 x13 x14 x16 x17 x18 x20 x21 x22 x23 x24 x25 x26 x27 x28 x29 x30 x31 x32 x33 x34 x35 x36 x37 x38 x39 x40 x41 x42 x43 x44 x45 x46 x47 x48 x49 x50 x51 x52 x53 x54 x55 x56 x57 x58 x59 x60 x61 x62 x63 x64 x65 x66 x67 x68 x69 x70 x71 x72 x73 x74 x75 x76 x77 x78 x79 x80 x81 x82 x83 x84 x85 x86 x87 x88 x89 x90 x91 x92 x93 x94 x95 x96 x97 x98 x99 x100 x101 x102 x103 x104 x105 x106 x107 x108 x109 x110 x111 x112 x113 x114 x115 x116 x117 x118 x119 x120 x121 x122 x123 x124 x125 x126 x127 x128 x129 x130 x131 x132 x133 x134 x135 x136 x137 x138 x139 x140 x141 x142 x143 x144 x145 x146 x147 x148 x149 x150 x151 x152 x153 x154 x155 x156 x157 x158 x159 x160 x161 x162 x163 x164 x165 x166 x167 x168 x169 x170 x171 x172 x173 x174 x175 x176 x177 x178 x179 x180 x181 x182 x183 x184 x185 x186 x187 x188 x189 x190 x191 x192 x193 x194 x195 x196 x197 x198 x199 x200 x201 x202 x203 x204 x205 x206 x207 x208 x209 x210 x211 x212 x213 x214 x215 x216 x217 x218 x219 x220 x221 x222 x223 x224 x225 x226 x227 x228 x229 x230 x231 x232 x233 x234 x235 x236 x237 x238 x239 x240 x241 x242 x243 x244 x245 x246 x247 x248 x249 x250 x251 x252 x253 x254 x255 x256 x257 x258 x259 x260 x261 x262 x263 x264 x265 x266 x267 x268 x269 x270 x271 x272 x273 x274 x275 x276 x277:Value} {K:Act->World->Prop} {Q0:Exit->Act->World->Prop} {cd:Code} (hcd:cd=logReg 48) (hQp:∀ c d v (a:Act) {w},Q0 (.panic c) (a.put d v) w->Q0 (.panic c) a w) (hO:w.heap[bO]?=some (.cells #[.slice ea en ec,.slice va vn vc,.int .i64 (rp.c.read:Int),.int .i64 (rp.c.write:Int),.int .i64 (rp.c.swap:Int),.int .i64 (rp.c.add:Int),.int .i64 (rp.c.fault:Int),.int .i64 (rp.ticks:Int),.int .i64 (rp.idle:Int)] 32 (0,0))) (hR:w.heap[bR]?=some (.cells #[.slice none 0 0,.slice none 0 0,.int .i64 0,.int .i64 0,.int .i64 0,.int .i64 0,.int .i64 0,.int .i64 0,.int .i64 0] 32 (0,0))) (hRO:bR≠bO) (hRW:bR≠bW) (hL:w.cell? ⟨bW,9,none⟩=some (.slice la ln lc))
  (hK:∀(y9 y273 y274 y275 y276 y277:Value) (w':World),(∃ cs,repV (.slice ea en ec) (.slice va vn vc) rp=.agg cs/\cs.size=9/\w'.heap[bR]?=some (.cells cs 32 (0,0))/\Chg (λb=>b=bR) w w')->K ⟨#[x0,x1,x2,x3,x4,x5,x6,x7,.pointer (some ⟨bR,0,none⟩),y9,.int .i64 0,x11,x12,x13,x14,.pointer (some ⟨bW,0,none⟩),x16,x17,x18,.pointer (some ⟨bO,0,none⟩),x20,x21,x22,x23,x24,x25,x26,x27,x28,x29,x30,x31,x32,x33,x34,x35,x36,x37,x38,x39,x40,x41,x42,x43,x44,x45,x46,x47,x48,x49,x50,x51,x52,x53,x54,x55,x56,x57,x58,x59,x60,x61,x62,x63,x64,x65,x66,x67,x68,x69,x70,x71,x72,x73,x74,x75,x76,x77,x78,x79,x80,x81,x82,x83,x84,x85,x86,x87,x88,x89,x90,x91,x92,x93,x94,x95,x96,x97,x98,x99,x100,x101,x102,x103,x104,x105,x106,x107,x108,x109,x110,x111,x112,x113,x114,x115,x116,x117,x118,x119,x120,x121,x122,x123,x124,x125,x126,x127,x128,x129,x130,x131,x132,x133,x134,x135,x136,x137,x138,x139,x140,x141,x142,x143,x144,x145,x146,x147,x148,x149,x150,x151,x152,x153,x154,x155,x156,x157,x158,x159,x160,x161,x162,x163,x164,x165,x166,x167,x168,x169,x170,x171,x172,x173,x174,x175,x176,x177,x178,x179,x180,x181,x182,x183,x184,x185,x186,x187,x188,x189,x190,x191,x192,x193,x194,x195,x196,x197,x198,x199,x200,x201,x202,x203,x204,x205,x206,x207,x208,x209,x210,x211,x212,x213,x214,x215,x216,x217,x218,x219,x220,x221,x222,x223,x224,x225,x226,x227,x228,x229,x230,x231,x232,x233,x234,x235,x236,x237,x238,x239,x240,x241,x242,x243,x244,x245,x246,x247,x248,x249,x250,x251,x252,x253,x254,x255,x256,x257,x258,x259,x260,x261,x262,x263,x264,x265,x266,x267,x268,x269,x270,x271,x272,y273,y274,y275,y276,y277],[]⟩ w'):Code.wp Tryz.prog cd (Exit.then K Q0) ⟨#[x0,x1,x2,x3,x4,x5,x6,x7,.pointer (some ⟨bR,0,none⟩),x9,x10,x11,x12,x13,x14,.pointer (some ⟨bW,0,none⟩),x16,x17,x18,.pointer (some ⟨bO,0,none⟩),x20,x21,x22,x23,x24,x25,x26,x27,x28,x29,x30,x31,x32,x33,x34,x35,x36,x37,x38,x39,x40,x41,x42,x43,x44,x45,x46,x47,x48,x49,x50,x51,x52,x53,x54,x55,x56,x57,x58,x59,x60,x61,x62,x63,x64,x65,x66,x67,x68,x69,x70,x71,x72,x73,x74,x75,x76,x77,x78,x79,x80,x81,x82,x83,x84,x85,x86,x87,x88,x89,x90,x91,x92,x93,x94,x95,x96,x97,x98,x99,x100,x101,x102,x103,x104,x105,x106,x107,x108,x109,x110,x111,x112,x113,x114,x115,x116,x117,x118,x119,x120,x121,x122,x123,x124,x125,x126,x127,x128,x129,x130,x131,x132,x133,x134,x135,x136,x137,x138,x139,x140,x141,x142,x143,x144,x145,x146,x147,x148,x149,x150,x151,x152,x153,x154,x155,x156,x157,x158,x159,x160,x161,x162,x163,x164,x165,x166,x167,x168,x169,x170,x171,x172,x173,x174,x175,x176,x177,x178,x179,x180,x181,x182,x183,x184,x185,x186,x187,x188,x189,x190,x191,x192,x193,x194,x195,x196,x197,x198,x199,x200,x201,x202,x203,x204,x205,x206,x207,x208,x209,x210,x211,x212,x213,x214,x215,x216,x217,x218,x219,x220,x221,x222,x223,x224,x225,x226,x227,x228,x229,x230,x231,x232,x233,x234,x235,x236,x237,x238,x239,x240,x241,x242,x243,x244,x245,x246,x247,x248,x249,x250,x251,x252,x253,x254,x255,x256,x257,x258,x259,x260,x261,x262,x263,x264,x265,x266,x267,x268,x269,x270,x271,x272,x273,x274,x275,x276,x277],[]⟩ w:=by
 subst hcd
 have HQp:=Lib.hid hQp;have HK:=Lib.hid hK
 clear hQp hK
 have o0:w.cell? ⟨bO,0,none⟩=some (.slice ea en ec):=by rw [cell_blk hO];rfl
 have o1:w.cell? ⟨bO,1,none⟩=some (.slice va vn vc):=by rw [cell_blk hO];rfl
 have o2:w.cell? ⟨bO,2,none⟩=some (.int .i64 (rp.c.read:Int)):=by rw [cell_blk hO];rfl
 have o3:w.cell? ⟨bO,3,none⟩=some (.int .i64 (rp.c.write:Int)):=by rw [cell_blk hO];rfl
 have o4:w.cell? ⟨bO,4,none⟩=some (.int .i64 (rp.c.swap:Int)):=by rw [cell_blk hO];rfl
 have o5:w.cell? ⟨bO,5,none⟩=some (.int .i64 (rp.c.add:Int)):=by rw [cell_blk hO];rfl
 have o6:w.cell? ⟨bO,6,none⟩=some (.int .i64 (rp.c.fault:Int)):=by rw [cell_blk hO];rfl
 have o7:w.cell? ⟨bO,7,none⟩=some (.int .i64 (rp.ticks:Int)):=by rw [cell_blk hO];rfl
 have o8:w.cell? ⟨bO,8,none⟩=some (.int .i64 (rp.idle:Int)):=by rw [cell_blk hO];rfl
 have kp:∀ u:World,Chg (λb=>b=bR) w u->u.cell? ⟨bO,0,none⟩=some (.slice ea en ec)/\u.cell? ⟨bO,1,none⟩=some (.slice va vn vc)/\u.cell? ⟨bO,2,none⟩=some (.int .i64 (rp.c.read:Int))/\u.cell? ⟨bO,3,none⟩=some (.int .i64 (rp.c.write:Int))/\u.cell? ⟨bO,4,none⟩=some (.int .i64 (rp.c.swap:Int))/\u.cell? ⟨bO,5,none⟩=some (.int .i64 (rp.c.add:Int))/\u.cell? ⟨bO,6,none⟩=some (.int .i64 (rp.c.fault:Int))/\u.cell? ⟨bO,7,none⟩=some (.int .i64 (rp.ticks:Int))/\u.cell? ⟨bO,8,none⟩=some (.int .i64 (rp.idle:Int))/\u.cell? ⟨bW,9,none⟩=some (.slice la ln lc):=λu hu=>⟨(hu.cell (p:=⟨bO,0,none⟩) (blk_lt hO) (Ne.symm hRO)).trans o0,(hu.cell (p:=⟨bO,1,none⟩) (blk_lt hO) (Ne.symm hRO)).trans o1,(hu.cell (p:=⟨bO,2,none⟩) (blk_lt hO) (Ne.symm hRO)).trans o2,(hu.cell (p:=⟨bO,3,none⟩) (blk_lt hO) (Ne.symm hRO)).trans o3,(hu.cell (p:=⟨bO,4,none⟩) (blk_lt hO) (Ne.symm hRO)).trans o4,(hu.cell (p:=⟨bO,5,none⟩) (blk_lt hO) (Ne.symm hRO)).trans o5,(hu.cell (p:=⟨bO,6,none⟩) (blk_lt hO) (Ne.symm hRO)).trans o6,(hu.cell (p:=⟨bO,7,none⟩) (blk_lt hO) (Ne.symm hRO)).trans o7,(hu.cell (p:=⟨bO,8,none⟩) (blk_lt hO) (Ne.symm hRO)).trans o8,(hu.cell (p:=⟨bW,9,none⟩) (World.block_lt_of_cell? _ _ hL) (Ne.symm hRW)).trans hL⟩
 obtain⟨cs9,w9,hcs,hsz,hrun,hblk,hchg⟩:=rep_store w.drew bR (.slice ea en ec) (.slice va vn vc) rp hR rfl rfl
 have e9:#[.slice ea en ec,.slice va vn vc,.int .i64 (rp.c.read:Int),.int .i64 (rp.c.write:Int),.int .i64 (rp.c.swap:Int),.int .i64 (rp.c.add:Int),.int .i64 (rp.c.fault:Int),.int .i64 (rp.ticks:Int),.int .i64 (rp.idle:Int)]=cs9:=by
  have h9:=hcs
  unfold repV at h9
  injection h9
 have KP:=Lib.hid kp;have HF:=Lib.hid (And.intro hcs (And.intro hsz (And.intro hblk hchg)));have HC:=Lib.hid hchg;have E9:=Lib.hid e9
 clear kp hO e9 hcs hblk hR hchg
 conv=>arg 2;whnf
 refine wp_region_held_drew (S:=(λu=>u.cell? ⟨bO,0,none⟩=some (.slice ea en ec)/\u.cell? ⟨bO,1,none⟩=some (.slice va vn vc)/\u.cell? ⟨bO,2,none⟩=some (.int .i64 (rp.c.read:Int))/\u.cell? ⟨bO,3,none⟩=some (.int .i64 (rp.c.write:Int))/\u.cell? ⟨bO,4,none⟩=some (.int .i64 (rp.c.swap:Int))/\u.cell? ⟨bO,5,none⟩=some (.int .i64 (rp.c.add:Int))/\u.cell? ⟨bO,6,none⟩=some (.int .i64 (rp.c.fault:Int))/\u.cell? ⟨bO,7,none⟩=some (.int .i64 (rp.ticks:Int))/\u.cell? ⟨bO,8,none⟩=some (.int .i64 (rp.idle:Int))/\u.cell? ⟨bW,9,none⟩=some (.slice la ln lc))) (by kernel_rfl) ?_ (λhHeld=>?_)
 ·(with_reducible exact KP.out _ ((Chg.refl (λb=>b=bR) w).drew))
 refine wpAnyH_take (i:=0) (v:=?tv1) rfl (by kernel_rfl) (by kernel_rfl) (by kernel_rfl) (λ_ _ _ h=>HQp.out _ _ _ _ h) (Or.inl ⟨by rfl,?th1⟩) (by assumption) ?tr1
 (case th1=>(intro w hSw;go_simp;with_reducible rfl))
 (simp only [Act.put,zq1,zq2,zq3,zq4,zq5,zq6])
 refine wpAnyH_take (i:=1) (v:=?tv2) rfl (by kernel_rfl) (by kernel_rfl) (by kernel_rfl) (λ_ _ _ h=>HQp.out _ _ _ _ h) (Or.inl ⟨by rfl,?th2⟩) (by assumption) ?tr2
 (case th2=>(intro w hSw;go_simp;with_reducible rfl))
 (simp only [Act.put,zq1,zq2,zq3,zq4,zq5,zq6])
 refine wpAnyH_take (i:=2) (v:=?tv3) rfl (by kernel_rfl) (by kernel_rfl) (by kernel_rfl) (λ_ _ _ h=>HQp.out _ _ _ _ h) (Or.inl ⟨by rfl,?th3⟩) (by assumption) ?tr3
 (case th3=>(intro w hSw;go_simp;with_reducible rfl))
 (simp only [Act.put,zq1,zq2,zq3,zq4,zq5,zq6])
 refine wpAnyH_take (i:=3) (v:=?tv4) rfl (by kernel_rfl) (by kernel_rfl) (by kernel_rfl) (λ_ _ _ h=>HQp.out _ _ _ _ h) (Or.inl ⟨by rfl,?th4⟩) (by assumption) ?tr4
 (case th4=>(intro w hSw;go_simp;with_reducible rfl))
 (simp only [Act.put,zq1,zq2,zq3,zq4,zq5,zq6])
 refine wpAnyH_take (i:=4) (v:=?tv5) rfl (by kernel_rfl) (by kernel_rfl) (by kernel_rfl) (λ_ _ _ h=>HQp.out _ _ _ _ h) (Or.inl ⟨by rfl,?th5⟩) (by assumption) ?tr5
 (case th5=>(intro w hSw;go_simp;with_reducible rfl))
 (simp only [Act.put,zq1,zq2,zq3,zq4,zq5,zq6])
 refine wpAnyH_ready (rs:=[5]) (by kernel_rfl) (by simp) ?_
 refine AllReadyH.cons rfl (λK hK=>?_) AllReadyH.nil
 (rw [E9.out];go_simp)
 refine hK.out _ _ ?_ (λhHeld=>?_)
 ·(with_reducible exact KP.out _ (((Chg.refl (λb=>b=bR) w).drew).trans HC.out))
 clear hK K
 refine wpAnyH_take (i:=6) (v:=?tv6) rfl (by kernel_rfl) (by kernel_rfl) (by kernel_rfl) (λ_ _ _ h=>HQp.out _ _ _ _ h) (Or.inl ⟨by rfl,?th6⟩) (by assumption) ?tr6
 (case th6=>(intro w hSw;go_simp;with_reducible rfl))
 (simp only [Act.put,zq1,zq2,zq3,zq4,zq5,zq6])
 refine wpAnyH_take (i:=7) (v:=?tv7) rfl (by kernel_rfl) (by kernel_rfl) (by kernel_rfl) (λ_ _ _ h=>HQp.out _ _ _ _ h) (Or.inl ⟨by rfl,?th7⟩) (by assumption) ?tr7
 (case th7=>(intro w hSw;go_simp;with_reducible rfl))
 (simp only [Act.put,zq1,zq2,zq3,zq4,zq5,zq6])
 refine wpAnyH_done (by kernel_rfl) ?_ _
 exact HK.out _ _ _ _ _ _ _ ⟨cs9,HF.out.1,HF.out.2.1,HF.out.2.2.1,((Chg.refl (λb=>b=bR) w).drew).trans HF.out.2.2.2⟩
end Go.Proofs.YtfkokppncipgnaaGreat
