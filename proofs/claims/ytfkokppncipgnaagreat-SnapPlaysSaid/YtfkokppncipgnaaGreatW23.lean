/- A reference's play, whatever its object is: the rounds of roundelayplain.Log's main loop. -/
import Derived.Test.YtfkokppncipgnaaGreatW22
set_option maxRecDepth 100000
set_option linter.unusedVariables false
set_option linter.unusedSimpArgs false
set_option linter.unnecessarySimpa false
namespace Go.Proofs.YtfkokppncipgnaaGreat
open Go.RowKit
theorem Tx (q:Nat):16*q+2+7=q*16+9:=by omega
theorem gV.finish {w0 w:World} {J:RJ} {s:dS} {hl:List Value} {vs:List HV} {G K L:Value} {ea:Option Addr} {ec:Nat} {ers:List (Value×Value)} {q:Nat} {t:aJ} {r:RWD} (h:gV w0 w J q s hl vs G K L ea ec ers t r) (i:Nat) (hi:i<s.fin.length) :
  (w.cell? ⟨J.bH,q*16,none⟩=some (.bool true)/\w.frozen? ⟨J.bH,q*16,none⟩=false)/\((∃ x,(w.setCell ⟨J.bH,q*16,none⟩ (.bool false)).cell? ⟨J.bF,i,none⟩=some x)/\(w.setCell ⟨J.bH,q*16,none⟩ (.bool false)).frozen? ⟨J.bF,i,none⟩=false)/\
   jA w0 ((w.setCell ⟨J.bH,q*16,none⟩ (.bool false)).setCell ⟨J.bF,i,none⟩ (.bool true)) J { s with rw:=r,fin:=s.fin.set i true,hands:=s.hands.set q { s.hands.getD q aY with opn:=false,got:=t.got,ticks:=t.ticks } }:=by
 obtain⟨hl',h1⟩:=h.close
 have hql:q<s.hands.length:=by rw [h.rest.lens.2.2.1];exact h.hp
 have h2:=h1.shut h.hp
 have h3:=h2.finN i
 have hc0:=h1.rest.c0 q h.hp
 have ho:((s.hands.set q { s.hands.getD q aY with got:=t.got,ticks:=t.ticks }).getD q aY).opn=true:=by rw [aI hql];exact h.opn
 have hc0':hl'[16*q]?=some (.bool true):=by rw [hc0];exact congrArg (λb=>some (Value.bool b)) ho
 rw [Nat.mul_comm 16 q] at h2 h3 hc0'
 refine⟨⟨by rw [aA h1.hb];simpa using hc0',aB h1.hb _⟩,⟨⟨.bool (s.fin.getD i false),?_⟩,aB h2.rest.fin _⟩,?_⟩
 ·rw [aA h2.rest.fin]
  simp [List.getD_eq_getElem?_getD,hi]
 ·simp only [aI hql,List.set_set] at h3
  exact⟨_,_,_,_,_,_,h3⟩
theorem UY {dO:aD->aJ->RWD->aJ×RWD} {so:dS} {q i:Nat} {c:aD} {t':aJ} {R:aJ×RWD} (hR:R=rdo dO c ((so.hands.getD q aY).tape q) so.rw) (hz:R.1.halt=false) (hg:t'.got=R.1.got) (hk:t'.ticks=R.1.ticks) (hql:q<so.hands.length) (o:List Nat) (ho:o=if c.obj=0 then R.1.priv else (so.hands.getD q aY).own) {kv:Nat} (hkv:kv=(so.hands.getD q aY).ev) :
  rgo dO so q i c={ so with rw:=R.2,fin:=so.fin.set i true,evs:=dA (dA so.evs kv aS) kv (lJ R.2 q R.1),hands:=(so.hands.set q { so.hands.getD q aY with own:=o }).set q { (so.hands.set q { so.hands.getD q aY with own:=o }).getD q aY with opn:=false,got:=t'.got,ticks:=t'.ticks } }:=by
 unfold rgo
 rw [<-hR,if_neg (by rw [hz];exact Bool.false_ne_true),aI hql,List.set_set,hg,hk,hkv,ho]
structure OG (dO:aD->aJ->RWD->aJ×RWD) (late:aD->Nat->dW->RWD->List Int) (Pre:aD->aJ->RWD->Prop) (nt sz:Nat) (kd P Q:Int) (calls:List aD) (picks:List Int) (ca pa:Option Addr) (bS g:Nat) (w2:World) (J:RJ):Prop where
 D:DoB dO
 nt16:nt<=16
 nc:calls.length<=1000
 np:picks.length<=65536
 hs0:0<sz
 thr:∀ c,c<calls.length->0<=(calls.getD c d0).thread/\(calls.getD c d0).thread<(nt:Int)
 spec:kM w2 bS kd P Q
 base:w2.cell? ⟨g,0,none⟩=some (.int .i64 0)
 clsAt:jD noB w2 ca calls
 pksAt:jU w2 pa picks
 DC:DoC kd P Q nt Pre dO
 LC:QZ kd P Q nt late
 R:∀ k,kS nt sz calls (dL dO calls (gQ nt sz calls) (picks.take k))
 pre:∀ k i,k<picks.length->gF calls (dL dO calls (gQ nt sz calls) (picks.take k)).fin (picks.getD k 0)=some i->(calls.getD i d0).obj=0->∀ s1,s1=dM { dL dO calls (gQ nt sz calls) (picks.take k) with rw:=(dL dO calls (gQ nt sz calls) (picks.take k)).rw.tick } (picks.getD k 0).toNat i->Pre (calls.getD i d0) ((s1.hands.getD (picks.getD k 0).toNat aY).tape (picks.getD k 0).toNat) s1.rw
 Jn:J.nt=nt
 Js:J.sz=sz
 Jc:J.nc=calls.length
set_option maxHeartbeats 8000000 in
theorem Ji {dO:aD->aJ->RWD->aJ×RWD} {late:aD->Nat->dW->RWD->List Int} {Pre:aD->aJ->RWD->Prop} {nt sz:Nat} {kd P Q:Int} {calls:List aD} {picks:List Int} {ca pa:Option Addr} {bS g:Nat} {w2:World} {J:RJ} (X:OG dO late Pre nt sz kd P Q calls picks ca pa bS g w2 J) {cc pc gc:Nat} {K:Act->World->Prop} {Q0:Exit->Act->World->Prop} {c4 c5 c6 c7 c8 c9 c10 c11 c13 c14 c18 c24 c25 c26 c27 c28 c29 c30 c31 c32 c33 c34 c35 c36 c37 c38 c39 c40 c41 c42 c43 c44 c45 c46 c47 c48 c49 c50 c51 c52 c53 c54 c55 c56 c57 c58 c59 c60 c61 c62 c63 c64 c65 c66 c67 c68 c69 c70 c71 c72 c73 c74 c75 c76 c207 c208 c209 c210 c211 c212 c213 c214 c215 c216 c217 c218 c219 c220 c221 c222 c223 c224 c225 c226 c227 c228 c229 c230 c231 c232 c233 c234 c235 c236 c237 c238 c239 c240 c241 c242 c243 c244 c245 c246 c247 c248 c249 c250 c251 c252 c253 c254 c255 c256 c257 c258 c259 c260 c261 c262 c263 c264 c265 c266 c267 c268 c269 c270 c271 c272 c273 c274 c275 c276 c277 u20 u21 u22 u23 u79 u80 u81 u82 u83 u84 u85 u86 u87 u88 u89 u90 u91 u92 u93 u94 u95 u96 u97 u98 u99 u100 u101 u102 u103 u104 u105 u106 u107 u108 u109 u110 u111 u112 u113 u114 u115 u116 u117 u118 u119 u120 u121 u122 u123 u124 u125 u126 u127 u128 u129 u130 u131 u132 u133 u134 u135 u136 u137 u138 u139 u140 u141 u142 u143 u144 u145 u146 u147 u148 u149 u150 u151 u152 u153 u154 u155 u156 u157 u158 u159 u160 u161 u162 u163 u164 u165 u166 u167 u168 u169 u170 u171 u172 u173 u174 u175 u176 u177 u178 u179 u180 u181 u182 u183 u184 u185 u186 u187 u188 u189 u190 u191 u192 u193 u194 u195 u196 u197 u198 u199 u200 u201 u202 u203 u204 u205 u206:Value} {wi:World} {k:Nat} {cd:Code} (hcd:cd=logBody2) (hlt:k<picks.length) (hQp:∀ c d v (a:Act) {w},Q0 (.panic c) (a.put d v) w->Q0 (.panic c) a w) (hA:jA w2 wi J (dL dO calls (gQ nt sz calls) (picks.take k))) (hN:gF calls (dL dO calls (gQ nt sz calls) (picks.take k)).fin (picks.getD k 0)=none)
  (hend:∀(u20 u21 u22 u23 u79 u80 u81 u82 u83 u84 u85 u86 u87 u88 u89 u90 u91 u92 u93 u94 u95 u96 u97 u98 u99 u100 u101 u102 u103 u104 u105 u106 u107 u108 u109 u110 u111 u112 u113 u114 u115 u116 u117 u118 u119 u120 u121 u122 u123 u124 u125 u126 u127 u128 u129 u130 u131 u132 u133 u134 u135 u136 u137 u138 u139 u140 u141 u142 u143 u144 u145 u146 u147 u148 u149 u150 u151 u152 u153 u154 u155 u156 u157 u158 u159 u160 u161 u162 u163 u164 u165 u166 u167 u168 u169 u170 u171 u172 u173 u174 u175 u176 u177 u178 u179 u180 u181 u182 u183 u184 u185 u186 u187 u188 u189 u190 u191 u192 u193 u194 u195 u196 u197 u198 u199 u200 u201 u202 u203 u204 u205 u206:Value) (w'':World),jA w2 w'' J (dL dO calls (gQ nt sz calls) (picks.take (k+1)))->K ⟨#[.int .i64 (nt:Int),.slice (some ⟨bS,0,none⟩) 1 1,.slice ca calls.length cc,.slice pa picks.length pc,c4,c5,c6,c7,c8,c9,c10,c11,.slice (some ⟨g,0,none⟩) 1 gc,c13,c14,.pointer (some ⟨J.bW,0,none⟩),.slice (some ⟨J.bF,0,none⟩) calls.length calls.length,.slice (some ⟨J.bH,0,none⟩) nt nt,c18,.pointer (some ⟨J.bO,0,none⟩),u20,u21,u22,u23,c24,c25,c26,c27,c28,c29,c30,c31,c32,c33,c34,c35,c36,c37,c38,c39,c40,c41,c42,c43,c44,c45,c46,c47,c48,c49,c50,c51,c52,c53,c54,c55,c56,c57,c58,c59,c60,c61,c62,c63,c64,c65,c66,c67,c68,c69,c70,c71,c72,c73,c74,c75,c76,.int .i64 (picks.length:Int),.int .i64 ((k+1:Nat):Int),u79,u80,u81,u82,u83,u84,u85,u86,u87,u88,u89,u90,u91,u92,u93,u94,u95,u96,u97,u98,u99,u100,u101,u102,u103,u104,u105,u106,u107,u108,u109,u110,u111,u112,u113,u114,u115,u116,u117,u118,u119,u120,u121,u122,u123,u124,u125,u126,u127,u128,u129,u130,u131,u132,u133,u134,u135,u136,u137,u138,u139,u140,u141,u142,u143,u144,u145,u146,u147,u148,u149,u150,u151,u152,u153,u154,u155,u156,u157,u158,u159,u160,u161,u162,u163,u164,u165,u166,u167,u168,u169,u170,u171,u172,u173,u174,u175,u176,u177,u178,u179,u180,u181,u182,u183,u184,u185,u186,u187,u188,u189,u190,u191,u192,u193,u194,u195,u196,u197,u198,u199,u200,u201,u202,u203,u204,u205,u206,c207,c208,c209,c210,c211,c212,c213,c214,c215,c216,c217,c218,c219,c220,c221,c222,c223,c224,c225,c226,c227,c228,c229,c230,c231,c232,c233,c234,c235,c236,c237,c238,c239,c240,c241,c242,c243,c244,c245,c246,c247,c248,c249,c250,c251,c252,c253,c254,c255,c256,c257,c258,c259,c260,c261,c262,c263,c264,c265,c266,c267,c268,c269,c270,c271,c272,c273,c274,c275,c276,c277],[]⟩ w'') :
  Code.wp Tryz.prog cd (Exit.then K Q0) ⟨#[.int .i64 (nt:Int),.slice (some ⟨bS,0,none⟩) 1 1,.slice ca calls.length cc,.slice pa picks.length pc,c4,c5,c6,c7,c8,c9,c10,c11,.slice (some ⟨g,0,none⟩) 1 gc,c13,c14,.pointer (some ⟨J.bW,0,none⟩),.slice (some ⟨J.bF,0,none⟩) calls.length calls.length,.slice (some ⟨J.bH,0,none⟩) nt nt,c18,.pointer (some ⟨J.bO,0,none⟩),u20,u21,u22,u23,c24,c25,c26,c27,c28,c29,c30,c31,c32,c33,c34,c35,c36,c37,c38,c39,c40,c41,c42,c43,c44,c45,c46,c47,c48,c49,c50,c51,c52,c53,c54,c55,c56,c57,c58,c59,c60,c61,c62,c63,c64,c65,c66,c67,c68,c69,c70,c71,c72,c73,c74,c75,c76,.int .i64 (picks.length:Int),.int .i64 (k:Int),u79,u80,u81,u82,u83,u84,u85,u86,u87,u88,u89,u90,u91,u92,u93,u94,u95,u96,u97,u98,u99,u100,u101,u102,u103,u104,u105,u106,u107,u108,u109,u110,u111,u112,u113,u114,u115,u116,u117,u118,u119,u120,u121,u122,u123,u124,u125,u126,u127,u128,u129,u130,u131,u132,u133,u134,u135,u136,u137,u138,u139,u140,u141,u142,u143,u144,u145,u146,u147,u148,u149,u150,u151,u152,u153,u154,u155,u156,u157,u158,u159,u160,u161,u162,u163,u164,u165,u166,u167,u168,u169,u170,u171,u172,u173,u174,u175,u176,u177,u178,u179,u180,u181,u182,u183,u184,u185,u186,u187,u188,u189,u190,u191,u192,u193,u194,u195,u196,u197,u198,u199,u200,u201,u202,u203,u204,u205,u206,c207,c208,c209,c210,c211,c212,c213,c214,c215,c216,c217,c218,c219,c220,c221,c222,c223,c224,c225,c226,c227,c228,c229,c230,c231,c232,c233,c234,c235,c236,c237,c238,c239,c240,c241,c242,c243,c244,c245,c246,c247,c248,c249,c250,c251,c252,c253,c254,c255,c256,c257,c258,c259,c260,c261,c262,c263,c264,c265,c266,c267,c268,c269,c270,c271,c272,c273,c274,c275,c276,c277],[]⟩ wi:=by
 subst hcd
 have HQp:=Lib.hid hQp
 clear hQp
 have hsn:=GG dO calls (gQ nt sz calls) picks hlt
 have hct:=jM X.D calls (picks.take k) (gQ nt sz calls)
 rw [show(gQ nt sz calls).rw.now=0 from rfl,show(gQ nt sz calls).idle=0 from rfl,List.length_take] at hct
 obtain⟨S0,hS0⟩:∃ S0,S0=gQ nt sz calls:=⟨_,rfl⟩
 have hRk:=X.R k
 have hPk:=X.pre k
 rw [<-hS0] at hsn hct hA hN hRk hPk hend
 obtain⟨s,hs⟩:∃ s,s=dL dO calls S0 (picks.take k):=⟨_,rfl⟩
 rw [<-hs] at hA hN hsn hct hRk hPk
 obtain⟨x,hx⟩:∃ x,x=picks.getD k 0:=⟨_,rfl⟩
 rw [<-hx] at hsn hN hPk
 have hnc:=X.nc;have hnp:=X.np;have hn16:=X.nt16
 obtain⟨hl,vs,L,ea,ec,ers,hA⟩:=hA
 have hb:=hA.rest.below
 obtain⟨bp,op,rfl,hpc⟩:=X.pksAt.sl.elem hb hlt
 have p0:wi.cell? ⟨bp,op+k,none⟩=some (.int .i64 x):=by have h0:=hpc 0 (by omega);rw [Nat.mul_one,Nat.add_zero] at h0;rw [h0,hx];rfl
 have l1:(k:Int)<(picks.length:Int):=by omega
 have NW:=UM calls s.fin x ca (some ⟨J.bF,0,none⟩) cc calls.length wi (X.clsAt.sl.grown hb) (by have h9:=hA.finSl (by rw [X.Jc];omega);rw [X.Jc] at h9;exact h9)
 have lk:wrap64 ((k:Int)+1)=((k+1:Nat):Int):=by unfold wrap64;omega
 have lk2:IntKind.i64.wrap ((k:Int)+1)=((k+1:Nat):Int):=by rw [IntKind.wrap_i64];omega
 rw [hN,show Dc none=-1 from rfl] at NW
 have hgo:dL dO calls S0 (picks.take (k+1))={ s with idle:=s.idle+1 }:=by rw [hsn];unfold oQ;rw [hN]
 have ho:=hA.rest.out
 have o8:wi.cell? ⟨J.bO,8,none⟩=some (.int .i64 (s.idle:Int)):=by rw [aA ho];rfl
 have f8:wi.frozen? ⟨J.bO,8,none⟩=false:=aB ho _
 have lw:IntKind.i64.wrap ((s.idle:Int)+1)=(s.idle:Int)+1:=by rw [IntKind.wrap_i64];omega
 have lw2:wrap64 ((s.idle:Int)+1)=(s.idle:Int)+1:=by unfold wrap64;omega
 have hA2:jA w2 (wi.setCell ⟨J.bO,8,none⟩ (.int .i64 ((s.idle:Int)+1))) J (dL dO calls S0 (picks.take (k+1))):=by rw [hgo];exact⟨_,_,_,_,_,_,hA.idleN⟩
 have HNW:=Lib.hid NW;have HA2:=Lib.hid hA2;have HE:=Lib.hid hend
 clear NW hA2 hgo hN hsn hct hs hx hpc ho hA hb hRk hPk X hend
 conv=>arg 2;whnf
 go_wp2_with fail
 refine HNW.out.mono ?_
 rintro e w5 ⟨rfl,rfl⟩
 go_wp2
 exact HE.out _ _ _ _ _ _ _ _ _ _ _ _ _ _ _ _ _ _ _ _ _ _ _ _ _ _ _ _ _ _ _ _ _ _ _ _ _ _ _ _ _ _ _ _ _ _ _ _ _ _ _ _ _ _ _ _ _ _ _ _ _ _ _ _ _ _ _ _ _ _ _ _ _ _ _ _ _ _ _ _ _ _ _ _ _ _ _ _ _ _ _ _ _ _ _ _ _ _ _ _ _ _ _ _ _ _ _ _ _ _ _ _ _ _ _ _ _ _ _ _ _ _ _ _ _ _ _ _ _ _ _ _ _ HA2.out
set_option maxHeartbeats 8000000 in
theorem Ff {dO:aD->aJ->RWD->aJ×RWD} {late:aD->Nat->dW->RWD->List Int} {Pre:aD->aJ->RWD->Prop} {nt sz:Nat} {kd P Q:Int} {calls:List aD} {picks:List Int} {ca pa:Option Addr} {bS g:Nat} {w2:World} {J:RJ} (X:OG dO late Pre nt sz kd P Q calls picks ca pa bS g w2 J) {cc pc gc:Nat} {K:Act->World->Prop} {Q0:Exit->Act->World->Prop} {c4 c5 c6 c7 c8 c9 c10 c11 c13 c14 c18 c24 c25 c26 c27 c28 c29 c30 c31 c32 c33 c34 c35 c36 c37 c38 c39 c40 c41 c42 c43 c44 c45 c46 c47 c48 c49 c50 c51 c52 c53 c54 c55 c56 c57 c58 c59 c60 c61 c62 c63 c64 c65 c66 c67 c68 c69 c70 c71 c72 c73 c74 c75 c76 c207 c208 c209 c210 c211 c212 c213 c214 c215 c216 c217 c218 c219 c220 c221 c222 c223 c224 c225 c226 c227 c228 c229 c230 c231 c232 c233 c234 c235 c236 c237 c238 c239 c240 c241 c242 c243 c244 c245 c246 c247 c248 c249 c250 c251 c252 c253 c254 c255 c256 c257 c258 c259 c260 c261 c262 c263 c264 c265 c266 c267 c268 c269 c270 c271 c272 c273 c274 c275 c276 c277 u20 u21 u22 u23 u79 u80 u81 u82 u83 u84 u85 u86 u87 u88 u89 u90 u91 u92 u93 u94 u95 u96 u97 u98 u99 u100 u101 u102 u103 u104 u105 u106 u107 u108 u109 u110 u111 u112 u113 u114 u115 u116 u117 u118 u119 u120 u121 u122 u123 u124 u125 u126 u127 u128 u129 u130 u131 u132 u133 u134 u135 u136 u137 u138 u139 u140 u141 u142 u143 u144 u145 u146 u147 u148 u149 u150 u151 u152 u153 u154 u155 u156 u157 u158 u159 u160 u161 u162 u163 u164 u165 u166 u167 u168 u169 u170 u171 u172 u173 u174 u175 u176 u177 u178 u179 u180 u181 u182 u183 u184 u185 u186 u187 u188 u189 u190 u191 u192 u193 u194 u195 u196 u197 u198 u199 u200 u201 u202 u203 u204 u205 u206:Value} {wi:World} {k:Nat} {cd:Code} (hcd:cd=logBody2) (hlt:k<picks.length) (hQp:∀ c d v (a:Act) {w},Q0 (.panic c) (a.put d v) w->Q0 (.panic c) a w) {i:Nat} (hA:jA w2 wi J (dL dO calls (gQ nt sz calls) (picks.take k))) (hN:gF calls (dL dO calls (gQ nt sz calls) (picks.take k)).fin (picks.getD k 0)=some i)
  (hend:∀(u20 u21 u22 u23 u79 u80 u81 u82 u83 u84 u85 u86 u87 u88 u89 u90 u91 u92 u93 u94 u95 u96 u97 u98 u99 u100 u101 u102 u103 u104 u105 u106 u107 u108 u109 u110 u111 u112 u113 u114 u115 u116 u117 u118 u119 u120 u121 u122 u123 u124 u125 u126 u127 u128 u129 u130 u131 u132 u133 u134 u135 u136 u137 u138 u139 u140 u141 u142 u143 u144 u145 u146 u147 u148 u149 u150 u151 u152 u153 u154 u155 u156 u157 u158 u159 u160 u161 u162 u163 u164 u165 u166 u167 u168 u169 u170 u171 u172 u173 u174 u175 u176 u177 u178 u179 u180 u181 u182 u183 u184 u185 u186 u187 u188 u189 u190 u191 u192 u193 u194 u195 u196 u197 u198 u199 u200 u201 u202 u203 u204 u205 u206:Value) (w'':World),jA w2 w'' J (dL dO calls (gQ nt sz calls) (picks.take (k+1)))->K ⟨#[.int .i64 (nt:Int),.slice (some ⟨bS,0,none⟩) 1 1,.slice ca calls.length cc,.slice pa picks.length pc,c4,c5,c6,c7,c8,c9,c10,c11,.slice (some ⟨g,0,none⟩) 1 gc,c13,c14,.pointer (some ⟨J.bW,0,none⟩),.slice (some ⟨J.bF,0,none⟩) calls.length calls.length,.slice (some ⟨J.bH,0,none⟩) nt nt,c18,.pointer (some ⟨J.bO,0,none⟩),u20,u21,u22,u23,c24,c25,c26,c27,c28,c29,c30,c31,c32,c33,c34,c35,c36,c37,c38,c39,c40,c41,c42,c43,c44,c45,c46,c47,c48,c49,c50,c51,c52,c53,c54,c55,c56,c57,c58,c59,c60,c61,c62,c63,c64,c65,c66,c67,c68,c69,c70,c71,c72,c73,c74,c75,c76,.int .i64 (picks.length:Int),.int .i64 ((k+1:Nat):Int),u79,u80,u81,u82,u83,u84,u85,u86,u87,u88,u89,u90,u91,u92,u93,u94,u95,u96,u97,u98,u99,u100,u101,u102,u103,u104,u105,u106,u107,u108,u109,u110,u111,u112,u113,u114,u115,u116,u117,u118,u119,u120,u121,u122,u123,u124,u125,u126,u127,u128,u129,u130,u131,u132,u133,u134,u135,u136,u137,u138,u139,u140,u141,u142,u143,u144,u145,u146,u147,u148,u149,u150,u151,u152,u153,u154,u155,u156,u157,u158,u159,u160,u161,u162,u163,u164,u165,u166,u167,u168,u169,u170,u171,u172,u173,u174,u175,u176,u177,u178,u179,u180,u181,u182,u183,u184,u185,u186,u187,u188,u189,u190,u191,u192,u193,u194,u195,u196,u197,u198,u199,u200,u201,u202,u203,u204,u205,u206,c207,c208,c209,c210,c211,c212,c213,c214,c215,c216,c217,c218,c219,c220,c221,c222,c223,c224,c225,c226,c227,c228,c229,c230,c231,c232,c233,c234,c235,c236,c237,c238,c239,c240,c241,c242,c243,c244,c245,c246,c247,c248,c249,c250,c251,c252,c253,c254,c255,c256,c257,c258,c259,c260,c261,c262,c263,c264,c265,c266,c267,c268,c269,c270,c271,c272,c273,c274,c275,c276,c277],[]⟩ w'') :
  Code.wp Tryz.prog cd (Exit.then K Q0) ⟨#[.int .i64 (nt:Int),.slice (some ⟨bS,0,none⟩) 1 1,.slice ca calls.length cc,.slice pa picks.length pc,c4,c5,c6,c7,c8,c9,c10,c11,.slice (some ⟨g,0,none⟩) 1 gc,c13,c14,.pointer (some ⟨J.bW,0,none⟩),.slice (some ⟨J.bF,0,none⟩) calls.length calls.length,.slice (some ⟨J.bH,0,none⟩) nt nt,c18,.pointer (some ⟨J.bO,0,none⟩),u20,u21,u22,u23,c24,c25,c26,c27,c28,c29,c30,c31,c32,c33,c34,c35,c36,c37,c38,c39,c40,c41,c42,c43,c44,c45,c46,c47,c48,c49,c50,c51,c52,c53,c54,c55,c56,c57,c58,c59,c60,c61,c62,c63,c64,c65,c66,c67,c68,c69,c70,c71,c72,c73,c74,c75,c76,.int .i64 (picks.length:Int),.int .i64 (k:Int),u79,u80,u81,u82,u83,u84,u85,u86,u87,u88,u89,u90,u91,u92,u93,u94,u95,u96,u97,u98,u99,u100,u101,u102,u103,u104,u105,u106,u107,u108,u109,u110,u111,u112,u113,u114,u115,u116,u117,u118,u119,u120,u121,u122,u123,u124,u125,u126,u127,u128,u129,u130,u131,u132,u133,u134,u135,u136,u137,u138,u139,u140,u141,u142,u143,u144,u145,u146,u147,u148,u149,u150,u151,u152,u153,u154,u155,u156,u157,u158,u159,u160,u161,u162,u163,u164,u165,u166,u167,u168,u169,u170,u171,u172,u173,u174,u175,u176,u177,u178,u179,u180,u181,u182,u183,u184,u185,u186,u187,u188,u189,u190,u191,u192,u193,u194,u195,u196,u197,u198,u199,u200,u201,u202,u203,u204,u205,u206,c207,c208,c209,c210,c211,c212,c213,c214,c215,c216,c217,c218,c219,c220,c221,c222,c223,c224,c225,c226,c227,c228,c229,c230,c231,c232,c233,c234,c235,c236,c237,c238,c239,c240,c241,c242,c243,c244,c245,c246,c247,c248,c249,c250,c251,c252,c253,c254,c255,c256,c257,c258,c259,c260,c261,c262,c263,c264,c265,c266,c267,c268,c269,c270,c271,c272,c273,c274,c275,c276,c277],[]⟩ wi:=by
 subst hcd
 have HQp:=Lib.hid hQp
 clear hQp
 have hsn:=GG dO calls (gQ nt sz calls) picks hlt
 have hct:=jM X.D calls (picks.take k) (gQ nt sz calls)
 rw [show(gQ nt sz calls).rw.now=0 from rfl,show(gQ nt sz calls).idle=0 from rfl,List.length_take] at hct
 obtain⟨S0,hS0⟩:∃ S0,S0=gQ nt sz calls:=⟨_,rfl⟩
 have hRk:=X.R k
 have hPk:=X.pre k
 rw [<-hS0] at hsn hct hA hN hRk hPk hend
 obtain⟨s,hs⟩:∃ s,s=dL dO calls S0 (picks.take k):=⟨_,rfl⟩
 rw [<-hs] at hA hN hsn hct hRk hPk
 obtain⟨x,hx⟩:∃ x,x=picks.getD k 0:=⟨_,rfl⟩
 rw [<-hx] at hsn hN hPk
 have hnc:=X.nc;have hnp:=X.np;have hn16:=X.nt16
 obtain⟨hl,vs,L,ea,ec,ers,hA⟩:=hA
 have hb:=hA.rest.below
 obtain⟨bp,op,rfl,hpc⟩:=X.pksAt.sl.elem hb hlt
 have p0:wi.cell? ⟨bp,op+k,none⟩=some (.int .i64 x):=by have h0:=hpc 0 (by omega);rw [Nat.mul_one,Nat.add_zero] at h0;rw [h0,hx];rfl
 have l1:(k:Int)<(picks.length:Int):=by omega
 have NW:=UM calls s.fin x ca (some ⟨J.bF,0,none⟩) cc calls.length wi (X.clsAt.sl.grown hb) (by have h9:=hA.finSl (by rw [X.Jc];omega);rw [X.Jc] at h9;exact h9)
 have lk:wrap64 ((k:Int)+1)=((k+1:Nat):Int):=by unfold wrap64;omega
 have lk2:IntKind.i64.wrap ((k:Int)+1)=((k+1:Nat):Int):=by rw [IntKind.wrap_i64];omega
 rw [hN,show Dc (some i)=(i:Int) from rfl] at NW
 obtain⟨n1,n2,n3⟩:=fC hN
 obtain⟨t1,t2⟩:=X.thr i n1
 obtain⟨q,rfl⟩:∃ q:Nat,x=(q:Int):=⟨x.toNat,by omega⟩
 have hq:q<nt:=by omega
 have hgo:dL dO calls S0 (picks.take (k+1))=rgo dO (dM { s with rw:=s.rw.tick } q i) q i (calls.getD i d0):=by rw [hsn];unfold oQ;rw [hN];rfl
 have hPi:=hPk i hlt hN
 simp only [Int.toNat_natCast] at hPi
 have hnow:s.rw.now<=65536:=by omega
 have li:¬ (i:Int)<0:=by omega
 obtain⟨wa,wcap,_,hW,_⟩:=hA.mem.blk
 have c6:wi.cell? ⟨J.bW,6,none⟩=some (.int .i64 (s.rw.now:Int)):=by rw [aA hW];rfl
 have f6:wi.frozen? ⟨J.bW,6,none⟩=false:=aB hW _
 have lw:IntKind.i64.wrap ((s.rw.now:Int)+1)=(s.rw.now:Int)+1:=by rw [IntKind.wrap_i64];omega
 have lw2:wrap64 ((s.rw.now:Int)+1)=(s.rw.now:Int)+1:=by unfold wrap64;omega
 have hA1:=hA.tick
 obtain⟨s1,hs1⟩:∃ s1:dS,s1={ s with rw:=s.rw.tick }:=⟨_,rfl⟩
 obtain⟨w1,hw1⟩:∃ w1,w1=wi.setCell ⟨J.bW,6,none⟩ (.int .i64 ((s.rw.now:Int)+1)):=⟨_,rfl⟩
 rw [<-hw1] at hA1
 have hg1:=hRk.tick
 rw [<-hs1] at hgo hPi hg1
 have hA1':fM w2 w1 J s1 hl vs L ea ec ers:=by rw [hs1];exact hA1
 obtain⟨bp9,op9,e9,hbp,Zd⟩:=X.pksAt.sl.2 k hlt
 cases e9
 have keepP:∀ u,Below w2.heap.size w2 u->u.cell? ⟨bp,op+k,none⟩=some (.int .i64 (q:Int)):=λu hu=>by
  have h0:=Zd 0 (by omega);rw [Nat.mul_one,Nat.add_zero] at h0;rw [(hu.cell (p:=⟨bp,op+k,none⟩) hbp),h0,hx];rfl
 obtain⟨cb,co,rfl,hcb,Ip⟩:=X.clsAt.sl.2 i n1
 obtain⟨c,hc⟩:∃ c,c=calls.getD i d0:=⟨_,rfl⟩
 have keepC:∀ u,Below w2.heap.size w2 u->u.cell? ⟨cb,co+i*6,none⟩=some (.int .i64 c.thread)/\u.cell? ⟨cb,co+i*6+1,none⟩=some (.int .i64 c.obj)/\u.cell? ⟨cb,co+i*6+2,none⟩=some (.int .i64 c.kind)/\u.cell? ⟨cb,co+i*6+3,none⟩=some (.int .u64 (c.a:Int))/\u.cell? ⟨cb,co+i*6+4,none⟩=some (.int .u64 (c.b:Int))/\u.cell? ⟨cb,co+i*6+5,none⟩=some (.int .u64 (c.c:Int)):=λu hu=>by
  have hf:∀ f,f<6->u.cell? ⟨cb,co+i*6+f,none⟩=some (iX calls i f):=λf hf=>by rw [(hu.cell (p:=⟨cb,co+i*6+f,none⟩) hcb),Nat.add_assoc];exact Ip f hf
  have h0:=hf 0 (by omega);rw [Nat.add_zero] at h0
  refine⟨h0.trans ?_,(hf 1 (by omega)).trans ?_,(hf 2 (by omega)).trans ?_,(hf 3 (by omega)).trans ?_,(hf 4 (by omega)).trans ?_,(hf 5 (by omega)).trans ?_⟩<;>(rw [hc];rfl)
 have hcok:lF c:=X.clsAt.ok c (by rw [hc,List.getD_eq_getElem?_getD,List.getElem?_eq_getElem n1];exact List.getElem_mem n1)
 have hb1:=hA1'.rest.below
 have p1:=keepP w1 hb1
 obtain⟨y0,y1,y2,y3,y4,y5⟩:=keepC w1 hb1
 have lq:(q:Int)<(nt:Int):=by omega
 have lqw:IntKind.i64.wrap (q:Int)=(q:Int):=by rw [IntKind.wrap_i64];omega
 have lic:(i:Int)<(calls.length:Int):=by omega
 have lqi:¬ (q:Int)<0:=by omega
 obtain⟨b9,uZ⟩:∃ b9,b9=(s1.hands.getD q aY).opn:=⟨_,rfl⟩
 have Xp:w1.cell? ⟨J.bH,q*16,none⟩=some (.bool b9):=by rw [aA hA1'.hb,Nat.mul_comm,uZ];simpa using hA1'.rest.c0 q (by rw [X.Jn];exact hq)
 have Hb9:=Lib.hid uZ
 clear uZ
 have hHl:=aC hA1'.hb
 have hs1n:s1.rw.now=s.rw.now+1:=by rw [hs1];rfl
 have hs1b:s1.rw.now<=1000000:=by rw [hs1n];exact Nat.le_trans (Nat.succ_le_succ hnow) (by decide)
 have hel:s1.evs.length<=1000000:=Nat.le_trans hg1.el hs1b
 obtain⟨so,hso⟩:∃ so,so=dM s1 q i:=⟨_,rfl⟩
 have Ws:=hg1.open_ n1 hq
 rw [<-hso] at Ws
 obtain⟨o1,o2,o3,o4,o5,o6,o7,o8,o9,o10⟩:=Ws
 obtain⟨th,ob,kn,xa,xb,xc⟩:=c
 obtain⟨R,hR⟩:∃ R,R=rdo dO ⟨th,ob,kn,xa,xb,xc⟩ ((so.hands.getD q aY).tape q) so.rw:=⟨_,rfl⟩
 obtain⟨kv,hkv⟩:∃ kv,kv=(so.hands.getD q aY).ev:=⟨_,rfl⟩
 have hkl:kv<so.evs.length:=by rw [hkv];exact o2
 have Su:(so.evs.getD kv iO).steps<=1000000:=Nat.le_trans (o10 kv) hs1b
 have hRn:R.2.now<=1000000:=by
  have h8:R.2.now=so.rw.now:=by
   rw [hR];unfold rdo
   split
   ·rfl
   ·exact(X.D.runs _ _ _).now
  rw [h8,o6];exact hs1b
 have hJq:q<J.nt:=by rw [X.Jn];exact hq
 have hJ16:J.nt<=16:=by rw [X.Jn];exact hn16
 have hST:∀(w5:World) (hl5:List Value) (Zu:List HV) (L5:Value) (ea5:Option Addr) (Zz:Nat) (Nf:List (Value×Value)),fM w2 w5 J so hl5 Zu L5 ea5 Zz Nf->_:=λw5 hl5 Zu L5 ea5 Zz Nf hA5=>
  Sc (w0:=w2) (w:=w5) (J:=J) (s:=so) (hl:=hl5) (vs:=Zu) (L:=L5) (ea:=ea5) (ec:=Zz) (ers:=Nf) (p:=q) dO hA5 hJq o1 (Nat.le_trans (o7 q hq).1 hs1b) (by rw [o5];exact Nat.le_trans hg1.all hs1b) (Nat.le_trans (o7 q hq).2 (by decide)) (by rw [o5,hg1.ws];exact X.hs0) (λc t r=>(X.D.runs c t r).ws) (q*16) (Nat.mul_comm _ _) kd P Q bS g nt gc th ob kn xa xb xc hcok X.spec X.base (λhob B u hlen htb hra=>by
   subst hob
   have h9:=X.DC B u ⟨th,0,kn,xa,xb,xc⟩ _ _ hcok rfl (by have h8:=hPi (by rw [<-hc]) so hso;rw [<-hc] at h8;exact h8) hra
   rw [htb,hlen] at h9
   exact h9)
 rw [<-hR] at hST
 have h27:16*q+2+7=q*16+9:=Tx q
 have hfl:i<so.fin.length:=by rw [o4,hg1.fl];exact n1
 have hqs:q<so.hands.length:=by rw [o3];exact hq
 have HNW:=Lib.hid NW;have HE:=Lib.hid hend;have HX:=Lib.hid X;have HA1:=Lib.hid hA1';have KP:=Lib.hid keepP;have KC:=Lib.hid keepC;have Hgo:=Lib.hid hgo;have HPi:=Lib.hid hPi;have Hg1:=Lib.hid hg1;have Hw1:=Lib.hid hw1;have Hc:=Lib.hid hc;have Hok:=Lib.hid hcok;have Hs1:=Lib.hid hs1;have HST:=Lib.hid hST;have HR:=Lib.hid hR;have Hso:=Lib.hid hso;have Hkv:=Lib.hid hkv;have HRn:=Lib.hid hRn;have Hkl:=Lib.hid hkl;have Hst:=Lib.hid Su;have Hel:=Lib.hid hel;have H27:=Lib.hid h27;have Hfl:=Lib.hid hfl;have Hql:=Lib.hid hqs;have HJq:=Lib.hid hJq;have HJ16:=Lib.hid hJ16;have HX:=Lib.hid X
 clear hfl hqs hST hR hkv hRn hkl Su hel h27 hJq hJ16 o1 o2 o3 o4 o5 o6 o7 o8 o9 o10 hs1n hs1b NW hend X hA1 hA1' keepP keepC hgo hPi hg1 hw1 hc hcok hs1 hA hN hsn hs hx hpc Zd Ip hb hb1 hRk hPk n2 n3 t1 t2 hW hS0 hct hso hnow hnc hnp
 conv=>arg 2;whnf
 go_wp2_with fail
 refine HNW.out.mono ?_
 rintro e w5 ⟨rfl,rfl⟩
 go_upto_region 23 with fail
 rw [<-Hw1.out]
 go_upto_if 116 with fail
 obtain⟨w3,hw3⟩:∃ w3,w3=w1.alloc (.cells #[.int .i64 th,.int .i64 ob,.int .i64 kn,.int .u64 (xa:Int),.int .u64 (xb:Int),.int .u64 (xc:Int)] 48):=⟨_,rfl⟩
 have hg3:Below w1.heap.size w1 w3:=by rw [hw3];exact Gr.new _ _
 have hC3:w3.heap[w1.heap.size]?=some (.cells #[.int .i64 th,.int .i64 ob,.int .i64 kn,.int .u64 (xa:Int),.int .u64 (xb:Int),.int .u64 (xc:Int)] 48 (0,0)):=by rw [hw3];exact heap_alloc_new _ _
 rw [<-hw3]
 obtain⟨bC,hbC⟩:∃ bC,bC=w1.heap.size:=⟨_,rfl⟩
 rw [<-hbC] at hC3 ⊢
 have hbg:w2.heap.size<=bC:=by rw [hbC];exact HA1.out.rest.below.size
 have HBg:=Lib.hid hbg
 clear hbg
 have HC3:=Lib.hid hC3;have HA3:=Lib.hid (HA1.out.grown hg3)
 clear hw3 hC3 hg3 hbC y0 y1 y2 y3 y4 y5 p1 Xp Hw1 HA1
 obtain⟨n9,Sn⟩:∃ n9,n9=!b9:=⟨_,rfl⟩
 rw [<-Sn]
 go_cut [] from 79 to 206 (λwv=>(∃ hl' vs' L' ea' ec' ers',fM w2 wv J (dM s1 q i) hl' vs' L' ea' ec' ers')/\wv.heap[bC]?=some (.cells #[.int .i64 th,.int .i64 ob,.int .i64 kn,.int .u64 (xa:Int),.int .u64 (xb:Int),.int .u64 (xc:Int)] 48 (0,0)))
 case first=>
  cases b9 with
  | true=>
   have hr:dM s1 q i=s1:=by unfold dM;rw [if_pos Hb9.out.symm]
   obtain rfl:n9=false:=Sn
   go_wp2
   go_meet
   case rel=>exact⟨⟨hl,vs,L,ea,ec,ers,by rw [hr];exact HA3.out⟩,HC3.out⟩
  | false=>
   have hr:dM s1 q i=iW s1 q i:=by unfold dM;rw [if_neg (by rw [<-Hb9.out];exact Bool.false_ne_true)]
   have p3:=KP.out w3 HA3.out.rest.below
   obtain rfl:n9=true:=Sn
   go_upto_region 26 with fail
   refine Nz (bC:=bC) (by kernel_rfl) (λc d v a _ h=>HQp.out c d v a h) HA3.out HJq.out HJ16.out p3 hlt HC3.out ?_
   rintro Zk Xu Yz Ui Zl Vj Xh Xz Wj Wx w4 ⟨hC4,hl4,Zq,hA4⟩
   have HA4:=Lib.hid hA4;have HC4:=Lib.hid hC4
   clear hA4 hC4 p3
   go_upto_region 27 with fail
   refine Mg (bC:=bC) (by kernel_rfl) (λc d v a _ h=>HQp.out c d v a h) HA4.out Hel.out HC4.out ?_
   rintro Tj Tk Uw Ti Yu Vt Sz Wy Wl Te Wv w9 ⟨hC9,ea',ec',ers',hA9⟩
   have HC9:=Lib.hid hC9
   have HA9:=Lib.hid hA9
   clear hA9 hC9
   go_wp2
   go_meet
   case rel=>exact⟨⟨_,_,_,_,_,_,by rw [hr];exact HA9.out⟩,HC9.out⟩
 case rest=>
  obtain⟨⟨hl5,Zu,L5,ea5,Zz,Nf,hA5⟩,hC5⟩:=hcut
  obtain⟨w5,rfl⟩:∃ w5,w5=wc:=⟨_,rfl⟩
  rw [<-Hso.out] at hA5
  have ST:=HST.out _ _ _ _ _ _ _ hA5
  have y0:w5.cell? ⟨bC,0,none⟩=some (.int .i64 th):=by rw [aA hC5];rfl
  have y1:w5.cell? ⟨bC,1,none⟩=some (.int .i64 ob):=by rw [aA hC5];rfl
  have y2:w5.cell? ⟨bC,2,none⟩=some (.int .i64 kn):=by rw [aA hC5];rfl
  have y3:w5.cell? ⟨bC,3,none⟩=some (.int .u64 (xa:Int)):=by rw [aA hC5];rfl
  have y4:w5.cell? ⟨bC,4,none⟩=some (.int .u64 (xb:Int)):=by rw [aA hC5];rfl
  have y5:w5.cell? ⟨bC,5,none⟩=some (.int .u64 (xc:Int)):=by rw [aA hC5];rfl
  have HS9:=Lib.hid ST;have HA5:=Lib.hid hA5;have HC5:=Lib.hid hC5
  clear ST hA5 hC5 HA3 HC3 Hb9 Sn HST
  go_upto_region 29 with(go_at_call 42;refine HS9.out.mono ?_;rintro e w6 ⟨rfl,hc6,G6,K6,L6,t6,hM6,hd6⟩)
  have hC6:=(hc6.block bC (aC HC5.out) (HA5.out.notmut HC5.out HBg.out (by decide))).trans HC5.out
  have HM6:=Lib.hid hM6;have HC6:=Lib.hid hC6;have Hd6:=Lib.hid hd6
  clear hc6 hM6 hC6 hd6 y0 y1 y2 y3 y4 y5 HS9 HA5 HC5
  refine Lc (bC:=bC) (by kernel_rfl) (λc d v a _ h=>HQp.out c d v a h) HM6.out Hkv.out Hkl.out Hst.out HC6.out ?_
  rintro Tp Tw Tq Xm Yv Xk y150 y151 y152 y153 Wi Ym w7 ⟨hC7,aA4,hM7⟩
  have e9:w7.cell? ⟨J.bH,q*16+9,none⟩=some (.bool t6.halt):=by
   obtain⟨_,_,_,PV,LV,KV,_,_,_,_,hcl⟩:=hM7.hand16
   have h9:=hcl 7 _ rfl (by omega)
   rw [H27.out] at h9;exact h9
  obtain⟨aAA,hh9⟩:∃ b,b=t6.halt:=⟨_,rfl⟩
  rw [<-hh9] at e9
  have HM7:=Lib.hid hM7;have HC7:=Lib.hid hC7;have Hh9:=Lib.hid hh9
  clear hM7 hC7 hh9 HM6 HC6
  cases aAA with
  | true=>
   have hz:R.1.halt=true:=by rw [<-Hd6.out.halt];exact Hh9.out.symm
   obtain⟨hl8,hA8⟩:=HM7.out.close
   have hfin:jA w2 w7 J (dL dO calls S0 (picks.take (k+1))):=by
    rw [Hgo.out,<-Hc.out]
    unfold rgo
    rw [<-Hso.out,<-HR.out,if_pos hz]
    have h9:=hA8
    rw [Hd6.out.got,Hd6.out.ticks] at h9
    rw [Hkv.out] at h9
    exact⟨_,_,_,_,_,_,h9⟩
   have HF:=Lib.hid hfin
   clear hA8 hfin hz
   go_wp2
   exact HE.out _ _ _ _ _ _ _ _ _ _ _ _ _ _ _ _ _ _ _ _ _ _ _ _ _ _ _ _ _ _ _ _ _ _ _ _ _ _ _ _ _ _ _ _ _ _ _ _ _ _ _ _ _ _ _ _ _ _ _ _ _ _ _ _ _ _ _ _ _ _ _ _ _ _ _ _ _ _ _ _ _ _ _ _ _ _ _ _ _ _ _ _ _ _ _ _ _ _ _ _ _ _ _ _ _ _ _ _ _ _ _ _ _ _ _ _ _ _ _ _ _ _ _ _ _ _ _ _ _ _ _ _ _ HF.out
  | false=>
   have hz:R.1.halt=false:=by rw [<-Hd6.out.halt];exact Hh9.out.symm
   obtain⟨da1,da2,da3,da4,da5⟩:=Hd6.out.ans hz
   have hrd:lJ R.2 q t6=lJ R.2 q R.1:=by funext e;unfold lJ;rw [da1,da2,da3,da4]
   have Hz:=Lib.hid hz;have Hrd:=Lib.hid hrd;have Hda:=Lib.hid da5
   clear hz da1 da2 da3 da4 da5 hrd
   go_upto_region 31 with fail
   refine Mv (bC:=bC) (k:=kv) (by kernel_rfl) (λc d v a _ h=>HQp.out c d v a h) HM7.out Hkv.out (by simp only [gP];exact Hkl.out) HJ16.out HRn.out HC7.out ?_
   rintro Vn Vr Us Ua Zb Yt y167 y168 Xc Wq Uj Uu Tf Xb Ue Ur Ul w8 ⟨hC8,aAT,hM8⟩
   simp only [Hrd.out] at hM8
   have HM8:=Lib.hid hM8;have HC8:=Lib.hid hC8
   have y1:w8.cell? ⟨bC,1,none⟩=some (.int .i64 ob):=by rw [aA HC8.out];rfl
   clear hM8 hC8 HM7 HC7
   by_cases hob:ob=0
   ·subst hob
    go_upto_region 33 with fail
    refine Lu (bC:=bC) (k:=0) (by kernel_rfl) (λc d v a _ h=>HQp.out c d v a h) HM8.out HC8.out ?_
    rintro Vx Tv Vf Sy Tm Zg Vz Vg Xt Sv Yc Ud w9 ⟨hC9,hM9⟩
    obtain⟨⟨k0,kf⟩,⟨⟨xf,kx⟩,kxf⟩,hF⟩:=hM9.finish i (by show i<so.fin.length;exact Hfl.out)
    have hfin:jA w2 ((w9.setCell ⟨J.bH,q*16,none⟩ (.bool false)).setCell ⟨J.bF,i,none⟩ (.bool true)) J (dL dO calls S0 (picks.take (k+1))):=by
     rw [Hgo.out,<-Hc.out,<-Hso.out,UY HR.out Hz.out Hd6.out.got Hd6.out.ticks Hql.out t6.priv (by rw [if_pos rfl];exact Hda.out rfl) Hkv.out]
     exact hF
    have HF:=Lib.hid hfin
    obtain⟨w10,wS⟩:∃ w10,w10=w9.setCell ⟨J.bH,q*16,none⟩ (.bool false):=⟨_,rfl⟩
    rw [<-wS] at kx kxf HF
    have Hw10:=Lib.hid wS
    clear wS hF hfin hC9 hM9 HM8 HC8 y1
    go_upto_region 35 with fail
    rw [<-Hw10.out]
    clear k0 kf Hw10
    go_wp2
    exact HE.out _ _ _ _ _ _ _ _ _ _ _ _ _ _ _ _ _ _ _ _ _ _ _ _ _ _ _ _ _ _ _ _ _ _ _ _ _ _ _ _ _ _ _ _ _ _ _ _ _ _ _ _ _ _ _ _ _ _ _ _ _ _ _ _ _ _ _ _ _ _ _ _ _ _ _ _ _ _ _ _ _ _ _ _ _ _ _ _ _ _ _ _ _ _ _ _ _ _ _ _ _ _ _ _ _ _ _ _ _ _ _ _ _ _ _ _ _ _ _ _ _ _ _ _ _ _ _ _ _ _ _ _ _ HF.out
   ·obtain⟨⟨k0,kf⟩,⟨⟨xf,kx⟩,kxf⟩,hF⟩:=HM8.out.finish i (by show i<so.fin.length;exact Hfl.out)
    have hfin:jA w2 ((w8.setCell ⟨J.bH,q*16,none⟩ (.bool false)).setCell ⟨J.bF,i,none⟩ (.bool true)) J (dL dO calls S0 (picks.take (k+1))):=by
     rw [Hgo.out,<-Hc.out,<-Hso.out,UY HR.out Hz.out Hd6.out.got Hd6.out.ticks Hql.out (so.hands.getD q aY).own (by rw [if_neg hob]) Hkv.out]
     have e9:so.hands.set q { so.hands.getD q aY with own:=(so.hands.getD q aY).own }=so.hands:=by
      show so.hands.set q (so.hands.getD q aY)=so.hands
      rw [List.getD_eq_getElem?_getD,List.getElem?_eq_getElem Hql.out];simp
     rw [e9]
     exact hF
    have HF:=Lib.hid hfin
    obtain⟨w10,wS⟩:∃ w10,w10=w8.setCell ⟨J.bH,q*16,none⟩ (.bool false):=⟨_,rfl⟩
    rw [<-wS] at kx kxf HF
    have Hw10:=Lib.hid wS
    clear wS hF hfin HM8 HC8
    by_cases h0:ob<0
    ·go_upto_region 35 with fail
     rw [<-Hw10.out]
     clear k0 kf Hw10
     go_wp2
     exact HE.out _ _ _ _ _ _ _ _ _ _ _ _ _ _ _ _ _ _ _ _ _ _ _ _ _ _ _ _ _ _ _ _ _ _ _ _ _ _ _ _ _ _ _ _ _ _ _ _ _ _ _ _ _ _ _ _ _ _ _ _ _ _ _ _ _ _ _ _ _ _ _ _ _ _ _ _ _ _ _ _ _ _ _ _ _ _ _ _ _ _ _ _ _ _ _ _ _ _ _ _ _ _ _ _ _ _ _ _ _ _ _ _ _ _ _ _ _ _ _ _ _ _ _ _ _ _ _ _ _ _ _ _ _ HF.out
    ·have h1:(1:Int)<=ob:=by omega
     go_upto_region 35 with fail
     rw [<-Hw10.out]
     clear k0 kf Hw10
     go_wp2
     exact HE.out _ _ _ _ _ _ _ _ _ _ _ _ _ _ _ _ _ _ _ _ _ _ _ _ _ _ _ _ _ _ _ _ _ _ _ _ _ _ _ _ _ _ _ _ _ _ _ _ _ _ _ _ _ _ _ _ _ _ _ _ _ _ _ _ _ _ _ _ _ _ _ _ _ _ _ _ _ _ _ _ _ _ _ _ _ _ _ _ _ _ _ _ _ _ _ _ _ _ _ _ _ _ _ _ _ _ _ _ _ _ _ _ _ _ _ _ _ _ _ _ _ _ _ _ _ _ _ _ _ _ _ _ _ HF.out
end Go.Proofs.YtfkokppncipgnaaGreat
