/- A reference's play, whatever its object is: the rounds of roundelayplain.Log's last loop. -/
import Derived.Test.YtfkokppncipgnaaGreatW23
import Derived.Test.YtfkokppncipgnaaGreatW24
set_option maxRecDepth 100000
set_option linter.unusedVariables false
set_option linter.unusedSimpArgs false
set_option linter.unnecessarySimpa false
namespace Go.Proofs.YtfkokppncipgnaaGreat
section
open Go.RowKit
def gW (late:aD->Nat->dW->RWD->List Int) (calls:List aD) (s:dS) (p:Nat):dS:={ s with evs:=(List.range p).foldl (jH late calls s) s.evs }
theorem yS (late:aD->Nat->dW->RWD->List Int) (calls:List aD) (s:dS) (p:Nat):(gW late calls s (p+1)).evs=jH late calls s (gW late calls s p).evs p:=by
 unfold gW
 simp only
 rw [List.range_succ,List.foldl_append];rfl
theorem XP (late:aD->Nat->dW->RWD->List Int) (calls:List aD) (s:dS) (evs:List EvD) (p:Nat):(jH late calls s evs p).length=evs.length:=by
 unfold jH
 split
 ·exact gP _ _ _
 ·rfl
theorem VL (late:aD->Nat->dW->RWD->List Int) (calls:List aD) (s:dS) (evs:List EvD) (p j:Nat):(aF (jH late calls s evs p) j).call=(aF evs j).call:=by
 unfold jH
 split
 ·refine xK ?_ _;intro x;rfl
 ·rfl
theorem wG (late:aD->Nat->dW->RWD->List Int) (calls:List aD) (s:dS):∀ p,(gW late calls s p).evs.length=s.evs.length/\∀ j,(aF (gW late calls s p).evs j).call=(aF s.evs j).call
 | 0=>⟨rfl,λ_=>rfl⟩
 | p+1=>by
  obtain⟨h1,h2⟩:=wG late calls s p
  rw [yS]
  exact⟨(XP _ _ _ _ _).trans h1,λj=>(VL _ _ _ _ _ _).trans (h2 j)⟩
set_option maxHeartbeats 8000000 in
theorem Kj {dO:aD->aJ->RWD->aJ×RWD} {late:aD->Nat->dW->RWD->List Int} {Pre:aD->aJ->RWD->Prop} {nt sz:Nat} {kd P Q:Int} {calls:List aD} {picks:List Int} {ca pa:Option Addr} {bS g:Nat} {w2:World} {J:RJ} (X:OG dO late Pre nt sz kd P Q calls picks ca pa bS g w2 J) {cc gc:Nat} {K:Act->World->Prop} {Q0:Exit->Act->World->Prop} {c3 c4 c5 c6 c7 c8 c9 c10 c11 c13 c14 c16 c18 c20 c21 c22 c23 c27 c28 c29 c30 c31 c32 c33 c34 c35 c36 c37 c38 c39 c40 c41 c42 c43 c44 c45 c46 c47 c48 c49 c50 c51 c52 c53 c54 c55 c56 c57 c58 c59 c60 c61 c62 c63 c64 c65 c66 c67 c68 c69 c70 c71 c72 c73 c74 c75 c76 c77 c78 c79 c80 c81 c82 c83 c84 c85 c86 c87 c88 c89 c90 c91 c92 c93 c94 c95 c96 c97 c98 c99 c100 c101 c102 c103 c104 c105 c106 c107 c108 c109 c110 c111 c112 c113 c114 c115 c116 c117 c118 c119 c120 c121 c122 c123 c124 c125 c126 c127 c128 c129 c130 c131 c132 c133 c134 c135 c136 c137 c138 c139 c140 c141 c142 c143 c144 c145 c146 c147 c148 c149 c150 c151 c152 c153 c154 c155 c156 c157 c158 c159 c160 c161 c162 c163 c164 c165 c166 c167 c168 c169 c170 c171 c172 c173 c174 c175 c176 c177 c178 c179 c180 c181 c182 c183 c184 c185 c186 c187 c188 c189 c190 c191 c192 c193 c194 c195 c196 c197 c198 c199 c200 c201 c202 c203 c204 c205 c206 c207 c256 c257 c258 c259 c260 c261 c262 c263 c264 c265 c266 c267 c268 c269 c270 c271 c272 c273 c274 c275 c276 c277 u24 u25 u26 u210 u211 u212 u213 u214 u215 u216 u217 u218 u219 u220 u221 u222 u223 u224 u225 u226 u227 u228 u229 u230 u231 u232 u233 u234 u235 u236 u237 u238 u239 u240 u241 u242 u243 u244 u245 u246 u247 u248 u249 u250 u251 u252 u253 u254 u255:Value} {wi:World} {p:Nat} {s:dS} {cd:Code} (hcd:cd=logBody3) (hlt:p<nt) (hQp:∀ c d v (a:Act) {w},Q0 (.panic c) (a.put d v) w->Q0 (.panic c) a w) (hA:jA w2 wi J (gW late calls s p)) (hg:kS nt sz calls s) (hnow:s.rw.now<=1000000) (hopn:(s.hands.getD p aY).opn=false)
  (hend:∀(u24 u25 u26 u210 u211 u212 u213 u214 u215 u216 u217 u218 u219 u220 u221 u222 u223 u224 u225 u226 u227 u228 u229 u230 u231 u232 u233 u234 u235 u236 u237 u238 u239 u240 u241 u242 u243 u244 u245 u246 u247 u248 u249 u250 u251 u252 u253 u254 u255:Value) (w'':World),jA w2 w'' J (gW late calls s (p+1))->K ⟨#[.int .i64 (nt:Int),.slice (some ⟨bS,0,none⟩) 1 1,.slice ca calls.length cc,c3,c4,c5,c6,c7,c8,c9,c10,c11,.slice (some ⟨g,0,none⟩) 1 gc,c13,c14,.pointer (some ⟨J.bW,0,none⟩),c16,.slice (some ⟨J.bH,0,none⟩) nt nt,c18,.pointer (some ⟨J.bO,0,none⟩),c20,c21,c22,c23,u24,u25,u26,c27,c28,c29,c30,c31,c32,c33,c34,c35,c36,c37,c38,c39,c40,c41,c42,c43,c44,c45,c46,c47,c48,c49,c50,c51,c52,c53,c54,c55,c56,c57,c58,c59,c60,c61,c62,c63,c64,c65,c66,c67,c68,c69,c70,c71,c72,c73,c74,c75,c76,c77,c78,c79,c80,c81,c82,c83,c84,c85,c86,c87,c88,c89,c90,c91,c92,c93,c94,c95,c96,c97,c98,c99,c100,c101,c102,c103,c104,c105,c106,c107,c108,c109,c110,c111,c112,c113,c114,c115,c116,c117,c118,c119,c120,c121,c122,c123,c124,c125,c126,c127,c128,c129,c130,c131,c132,c133,c134,c135,c136,c137,c138,c139,c140,c141,c142,c143,c144,c145,c146,c147,c148,c149,c150,c151,c152,c153,c154,c155,c156,c157,c158,c159,c160,c161,c162,c163,c164,c165,c166,c167,c168,c169,c170,c171,c172,c173,c174,c175,c176,c177,c178,c179,c180,c181,c182,c183,c184,c185,c186,c187,c188,c189,c190,c191,c192,c193,c194,c195,c196,c197,c198,c199,c200,c201,c202,c203,c204,c205,c206,c207,.int .i64 (nt:Int),.int .i64 ((p+1:Nat):Int),u210,u211,u212,u213,u214,u215,u216,u217,u218,u219,u220,u221,u222,u223,u224,u225,u226,u227,u228,u229,u230,u231,u232,u233,u234,u235,u236,u237,u238,u239,u240,u241,u242,u243,u244,u245,u246,u247,u248,u249,u250,u251,u252,u253,u254,u255,c256,c257,c258,c259,c260,c261,c262,c263,c264,c265,c266,c267,c268,c269,c270,c271,c272,c273,c274,c275,c276,c277],[]⟩ w'') :
  Code.wp Tryz.prog cd (Exit.then K Q0) ⟨#[.int .i64 (nt:Int),.slice (some ⟨bS,0,none⟩) 1 1,.slice ca calls.length cc,c3,c4,c5,c6,c7,c8,c9,c10,c11,.slice (some ⟨g,0,none⟩) 1 gc,c13,c14,.pointer (some ⟨J.bW,0,none⟩),c16,.slice (some ⟨J.bH,0,none⟩) nt nt,c18,.pointer (some ⟨J.bO,0,none⟩),c20,c21,c22,c23,u24,u25,u26,c27,c28,c29,c30,c31,c32,c33,c34,c35,c36,c37,c38,c39,c40,c41,c42,c43,c44,c45,c46,c47,c48,c49,c50,c51,c52,c53,c54,c55,c56,c57,c58,c59,c60,c61,c62,c63,c64,c65,c66,c67,c68,c69,c70,c71,c72,c73,c74,c75,c76,c77,c78,c79,c80,c81,c82,c83,c84,c85,c86,c87,c88,c89,c90,c91,c92,c93,c94,c95,c96,c97,c98,c99,c100,c101,c102,c103,c104,c105,c106,c107,c108,c109,c110,c111,c112,c113,c114,c115,c116,c117,c118,c119,c120,c121,c122,c123,c124,c125,c126,c127,c128,c129,c130,c131,c132,c133,c134,c135,c136,c137,c138,c139,c140,c141,c142,c143,c144,c145,c146,c147,c148,c149,c150,c151,c152,c153,c154,c155,c156,c157,c158,c159,c160,c161,c162,c163,c164,c165,c166,c167,c168,c169,c170,c171,c172,c173,c174,c175,c176,c177,c178,c179,c180,c181,c182,c183,c184,c185,c186,c187,c188,c189,c190,c191,c192,c193,c194,c195,c196,c197,c198,c199,c200,c201,c202,c203,c204,c205,c206,c207,.int .i64 (nt:Int),.int .i64 (p:Int),u210,u211,u212,u213,u214,u215,u216,u217,u218,u219,u220,u221,u222,u223,u224,u225,u226,u227,u228,u229,u230,u231,u232,u233,u234,u235,u236,u237,u238,u239,u240,u241,u242,u243,u244,u245,u246,u247,u248,u249,u250,u251,u252,u253,u254,u255,c256,c257,c258,c259,c260,c261,c262,c263,c264,c265,c266,c267,c268,c269,c270,c271,c272,c273,c274,c275,c276,c277],[]⟩ wi:=by
 subst hcd
 have HQp:=Lib.hid hQp
 clear hQp
 obtain⟨hsl,hsc⟩:=wG late calls s p
 have hsn:=yS late calls s p
 have hnc:=X.nc;have hn16:=X.nt16
 obtain⟨hl,vs,L,ea,ec,ers,hA⟩:=hA
 have hJ:p<J.nt:=by rw [X.Jn];exact hlt
 obtain⟨e,he⟩:∃ e,e=gW late calls s p:=⟨_,rfl⟩
 have e1:e.hands=s.hands:=by rw [he];rfl
 have e2:e.rw=s.rw:=by rw [he];rfl
 have e3:gW late calls s (p+1)={ e with evs:=jH late calls s e.evs p }:=by
  have h9:gW late calls s (p+1)={ (gW late calls s p) with evs:=(gW late calls s (p+1)).evs }:=rfl
  rw [h9,hsn,<-he]
 rw [<-he] at hA hsl hsc
 rw [e3] at hend
 have hc0:=hA.rest.c0 p hJ
 have l1:(p:Int)<(nt:Int):=by omega
 have l0:¬ (p:Int)<0:=by omega
 have lpw:IntKind.i64.wrap (p:Int)=(p:Int):=by rw [IntKind.wrap_i64];omega
 have lk:wrap64 ((p:Int)+1)=((p+1:Nat):Int):=by unfold wrap64;omega
 have lk2:IntKind.i64.wrap ((p:Int)+1)=((p+1:Nat):Int):=by rw [IntKind.wrap_i64];omega
 have q0:wi.cell? ⟨J.bH,p*16,none⟩=some (.bool (e.hands.getD p aY).opn):=by rw [aA hA.hb,Nat.mul_comm];simpa using hc0
 rw [e1,hopn] at q0
 have hfin:jA w2 wi J { e with evs:=jH late calls s e.evs p }:=by
  have h9:jH late calls s e.evs p=e.evs:=by unfold jH;rw [if_neg (by rw [hopn];exact Bool.false_ne_true)]
  rw [h9];exact⟨_,_,_,_,_,_,hA⟩
 have HF:=Lib.hid hfin;have HE:=Lib.hid hend
 clear hfin hend hA hc0 e1 e2 e3 he hsn hsl hsc X hJ
 conv=>arg 2;whnf
 go_wp2
 exact HE.out _ _ _ _ _ _ _ _ _ _ _ _ _ _ _ _ _ _ _ _ _ _ _ _ _ _ _ _ _ _ _ _ _ _ _ _ _ _ _ _ _ _ _ _ _ _ _ _ _ _ HF.out
set_option maxHeartbeats 8000000 in
theorem Dx {dO:aD->aJ->RWD->aJ×RWD} {late:aD->Nat->dW->RWD->List Int} {Pre:aD->aJ->RWD->Prop} {nt sz:Nat} {kd P Q:Int} {calls:List aD} {picks:List Int} {ca pa:Option Addr} {bS g:Nat} {w2:World} {J:RJ} (X:OG dO late Pre nt sz kd P Q calls picks ca pa bS g w2 J) {cc gc:Nat} {K:Act->World->Prop} {Q0:Exit->Act->World->Prop} {c3 c4 c5 c6 c7 c8 c9 c10 c11 c13 c14 c16 c18 c20 c21 c22 c23 c27 c28 c29 c30 c31 c32 c33 c34 c35 c36 c37 c38 c39 c40 c41 c42 c43 c44 c45 c46 c47 c48 c49 c50 c51 c52 c53 c54 c55 c56 c57 c58 c59 c60 c61 c62 c63 c64 c65 c66 c67 c68 c69 c70 c71 c72 c73 c74 c75 c76 c77 c78 c79 c80 c81 c82 c83 c84 c85 c86 c87 c88 c89 c90 c91 c92 c93 c94 c95 c96 c97 c98 c99 c100 c101 c102 c103 c104 c105 c106 c107 c108 c109 c110 c111 c112 c113 c114 c115 c116 c117 c118 c119 c120 c121 c122 c123 c124 c125 c126 c127 c128 c129 c130 c131 c132 c133 c134 c135 c136 c137 c138 c139 c140 c141 c142 c143 c144 c145 c146 c147 c148 c149 c150 c151 c152 c153 c154 c155 c156 c157 c158 c159 c160 c161 c162 c163 c164 c165 c166 c167 c168 c169 c170 c171 c172 c173 c174 c175 c176 c177 c178 c179 c180 c181 c182 c183 c184 c185 c186 c187 c188 c189 c190 c191 c192 c193 c194 c195 c196 c197 c198 c199 c200 c201 c202 c203 c204 c205 c206 c207 c256 c257 c258 c259 c260 c261 c262 c263 c264 c265 c266 c267 c268 c269 c270 c271 c272 c273 c274 c275 c276 c277 u24 u25 u26 u210 u211 u212 u213 u214 u215 u216 u217 u218 u219 u220 u221 u222 u223 u224 u225 u226 u227 u228 u229 u230 u231 u232 u233 u234 u235 u236 u237 u238 u239 u240 u241 u242 u243 u244 u245 u246 u247 u248 u249 u250 u251 u252 u253 u254 u255:Value} {wi:World} {p:Nat} {s:dS} {cd:Code} (hcd:cd=logBody3) (hlt:p<nt) (hQp:∀ c d v (a:Act) {w},Q0 (.panic c) (a.put d v) w->Q0 (.panic c) a w) (hA:jA w2 wi J (gW late calls s p)) (hg:kS nt sz calls s) (hnow:s.rw.now<=1000000) (hopn:(s.hands.getD p aY).opn=true)
  (hend:∀(u24 u25 u26 u210 u211 u212 u213 u214 u215 u216 u217 u218 u219 u220 u221 u222 u223 u224 u225 u226 u227 u228 u229 u230 u231 u232 u233 u234 u235 u236 u237 u238 u239 u240 u241 u242 u243 u244 u245 u246 u247 u248 u249 u250 u251 u252 u253 u254 u255:Value) (w'':World),jA w2 w'' J (gW late calls s (p+1))->K ⟨#[.int .i64 (nt:Int),.slice (some ⟨bS,0,none⟩) 1 1,.slice ca calls.length cc,c3,c4,c5,c6,c7,c8,c9,c10,c11,.slice (some ⟨g,0,none⟩) 1 gc,c13,c14,.pointer (some ⟨J.bW,0,none⟩),c16,.slice (some ⟨J.bH,0,none⟩) nt nt,c18,.pointer (some ⟨J.bO,0,none⟩),c20,c21,c22,c23,u24,u25,u26,c27,c28,c29,c30,c31,c32,c33,c34,c35,c36,c37,c38,c39,c40,c41,c42,c43,c44,c45,c46,c47,c48,c49,c50,c51,c52,c53,c54,c55,c56,c57,c58,c59,c60,c61,c62,c63,c64,c65,c66,c67,c68,c69,c70,c71,c72,c73,c74,c75,c76,c77,c78,c79,c80,c81,c82,c83,c84,c85,c86,c87,c88,c89,c90,c91,c92,c93,c94,c95,c96,c97,c98,c99,c100,c101,c102,c103,c104,c105,c106,c107,c108,c109,c110,c111,c112,c113,c114,c115,c116,c117,c118,c119,c120,c121,c122,c123,c124,c125,c126,c127,c128,c129,c130,c131,c132,c133,c134,c135,c136,c137,c138,c139,c140,c141,c142,c143,c144,c145,c146,c147,c148,c149,c150,c151,c152,c153,c154,c155,c156,c157,c158,c159,c160,c161,c162,c163,c164,c165,c166,c167,c168,c169,c170,c171,c172,c173,c174,c175,c176,c177,c178,c179,c180,c181,c182,c183,c184,c185,c186,c187,c188,c189,c190,c191,c192,c193,c194,c195,c196,c197,c198,c199,c200,c201,c202,c203,c204,c205,c206,c207,.int .i64 (nt:Int),.int .i64 ((p+1:Nat):Int),u210,u211,u212,u213,u214,u215,u216,u217,u218,u219,u220,u221,u222,u223,u224,u225,u226,u227,u228,u229,u230,u231,u232,u233,u234,u235,u236,u237,u238,u239,u240,u241,u242,u243,u244,u245,u246,u247,u248,u249,u250,u251,u252,u253,u254,u255,c256,c257,c258,c259,c260,c261,c262,c263,c264,c265,c266,c267,c268,c269,c270,c271,c272,c273,c274,c275,c276,c277],[]⟩ w'') :
  Code.wp Tryz.prog cd (Exit.then K Q0) ⟨#[.int .i64 (nt:Int),.slice (some ⟨bS,0,none⟩) 1 1,.slice ca calls.length cc,c3,c4,c5,c6,c7,c8,c9,c10,c11,.slice (some ⟨g,0,none⟩) 1 gc,c13,c14,.pointer (some ⟨J.bW,0,none⟩),c16,.slice (some ⟨J.bH,0,none⟩) nt nt,c18,.pointer (some ⟨J.bO,0,none⟩),c20,c21,c22,c23,u24,u25,u26,c27,c28,c29,c30,c31,c32,c33,c34,c35,c36,c37,c38,c39,c40,c41,c42,c43,c44,c45,c46,c47,c48,c49,c50,c51,c52,c53,c54,c55,c56,c57,c58,c59,c60,c61,c62,c63,c64,c65,c66,c67,c68,c69,c70,c71,c72,c73,c74,c75,c76,c77,c78,c79,c80,c81,c82,c83,c84,c85,c86,c87,c88,c89,c90,c91,c92,c93,c94,c95,c96,c97,c98,c99,c100,c101,c102,c103,c104,c105,c106,c107,c108,c109,c110,c111,c112,c113,c114,c115,c116,c117,c118,c119,c120,c121,c122,c123,c124,c125,c126,c127,c128,c129,c130,c131,c132,c133,c134,c135,c136,c137,c138,c139,c140,c141,c142,c143,c144,c145,c146,c147,c148,c149,c150,c151,c152,c153,c154,c155,c156,c157,c158,c159,c160,c161,c162,c163,c164,c165,c166,c167,c168,c169,c170,c171,c172,c173,c174,c175,c176,c177,c178,c179,c180,c181,c182,c183,c184,c185,c186,c187,c188,c189,c190,c191,c192,c193,c194,c195,c196,c197,c198,c199,c200,c201,c202,c203,c204,c205,c206,c207,.int .i64 (nt:Int),.int .i64 (p:Int),u210,u211,u212,u213,u214,u215,u216,u217,u218,u219,u220,u221,u222,u223,u224,u225,u226,u227,u228,u229,u230,u231,u232,u233,u234,u235,u236,u237,u238,u239,u240,u241,u242,u243,u244,u245,u246,u247,u248,u249,u250,u251,u252,u253,u254,u255,c256,c257,c258,c259,c260,c261,c262,c263,c264,c265,c266,c267,c268,c269,c270,c271,c272,c273,c274,c275,c276,c277],[]⟩ wi:=by
 subst hcd
 have HQp:=Lib.hid hQp
 clear hQp
 obtain⟨hsl,hsc⟩:=wG late calls s p
 have hsn:=yS late calls s p
 have hnc:=X.nc;have hn16:=X.nt16
 obtain⟨hl,vs,L,ea,ec,ers,hA⟩:=hA
 have hJ:p<J.nt:=by rw [X.Jn];exact hlt
 obtain⟨e,he⟩:∃ e,e=gW late calls s p:=⟨_,rfl⟩
 have e1:e.hands=s.hands:=by rw [he];rfl
 have e2:e.rw=s.rw:=by rw [he];rfl
 have e3:gW late calls s (p+1)={ e with evs:=jH late calls s e.evs p }:=by
  have h9:gW late calls s (p+1)={ (gW late calls s p) with evs:=(gW late calls s (p+1)).evs }:=rfl
  rw [h9,hsn,<-he]
 rw [<-he] at hA hsl hsc
 rw [e3] at hend
 have hc0:=hA.rest.c0 p hJ
 have l1:(p:Int)<(nt:Int):=by omega
 have l0:¬ (p:Int)<0:=by omega
 have lpw:IntKind.i64.wrap (p:Int)=(p:Int):=by rw [IntKind.wrap_i64];omega
 have lk:wrap64 ((p:Int)+1)=((p+1:Nat):Int):=by unfold wrap64;omega
 have lk2:IntKind.i64.wrap ((p:Int)+1)=((p+1:Nat):Int):=by rw [IntKind.wrap_i64];omega
 have q0:wi.cell? ⟨J.bH,p*16,none⟩=some (.bool (e.hands.getD p aY).opn):=by rw [aA hA.hb,Nat.mul_comm];simpa using hc0
 rw [e1,hopn] at q0
 have hopn':(e.hands.getD p aY).opn=true:=by rw [e1];exact hopn
 obtain⟨g1,_,g3⟩:=hg.hand p hlt
 obtain⟨r1,r2,r3⟩:=g3 hopn
 have g1':(e.hands.getD p aY).got.length<=1000000:=by rw [e1];exact Nat.le_trans g1 hnow
 obtain⟨k,hk⟩:∃ k,k=(e.hands.getD p aY).ev:=⟨_,rfl⟩
 have hks:(s.hands.getD p aY).ev=k:=by rw [hk,e1]
 rw [hks] at r1 r2 r3
 have hkl:k<e.evs.length:=by rw [hsl];exact r1
 obtain⟨i,hi⟩:∃ i,i=(e.evs.getD k iO).call:=⟨_,rfl⟩
 have hie:(aF s.evs k).call=i:=by rw [<-hsc k,hi];rfl
 rw [hie] at r2 r3
 obtain⟨cb,co,rfl,hcb,Ip⟩:=X.clsAt.sl.2 i r2
 obtain⟨c,hc⟩:∃ c,c=calls.getD i d0:=⟨_,rfl⟩
 have hb1:=hA.rest.below
 have hf:∀ f,f<6->wi.cell? ⟨cb,co+i*6+f,none⟩=some (iX calls i f):=λf hf=>by rw [(hb1.cell (p:=⟨cb,co+i*6+f,none⟩) hcb),Nat.add_assoc];exact Ip f hf
 have h0:=hf 0 (by omega);rw [Nat.add_zero] at h0
 have y0:wi.cell? ⟨cb,co+i*6,none⟩=some (.int .i64 c.thread):=h0.trans (by rw [hc];rfl)
 have y1:wi.cell? ⟨cb,co+i*6+1,none⟩=some (.int .i64 c.obj):=(hf 1 (by omega)).trans (by rw [hc];rfl)
 have y2:wi.cell? ⟨cb,co+i*6+2,none⟩=some (.int .i64 c.kind):=(hf 2 (by omega)).trans (by rw [hc];rfl)
 have y3:wi.cell? ⟨cb,co+i*6+3,none⟩=some (.int .u64 (c.a:Int)):=(hf 3 (by omega)).trans (by rw [hc];rfl)
 have y4:wi.cell? ⟨cb,co+i*6+4,none⟩=some (.int .u64 (c.b:Int)):=(hf 4 (by omega)).trans (by rw [hc];rfl)
 have y5:wi.cell? ⟨cb,co+i*6+5,none⟩=some (.int .u64 (c.c:Int)):=(hf 5 (by omega)).trans (by rw [hc];rfl)
 have hcok:lF c:=X.clsAt.ok c (by rw [hc,List.getD_eq_getElem?_getD,List.getElem?_eq_getElem r2];exact List.getElem_mem r2)
 rw [<-hc] at r3
 have hre:jH late calls s e.evs p=dA e.evs k (QH (late c p (e.hands.getD p aY) e.rw)):=by
  unfold jH
  rw [if_pos hopn,hks]
  show e.evs.set k { e.evs.getD k iO with key:=late (calls.getD (e.evs.getD k iO).call d0) p (s.hands.getD p aY) s.rw }=e.evs.set k { e.evs.getD k iO with key:=late c p (e.hands.getD p aY) e.rw }
  rw [<-hi,<-hc,e1,e2]
 rw [hre] at hend
 have hws:0<e.rw.mem.ws.length:=by rw [e2,hg.ws];exact X.hs0
 have hcnt:e.rw.mem.c.all<=1000000:=by rw [e2];exact Nat.le_trans hg.all hnow
 obtain⟨th,ob,kn,xa,xb,xc⟩:=c
 simp only at r3 y0 y1 y2 y3 y4 y5
 subst r3
 have HE:=Lib.hid hend;have HA:=Lib.hid hA;have HX:=Lib.hid X;have Hk:=Lib.hid hk;have Hi:=Lib.hid hi;have Hok:=Lib.hid hcok;have Hws:=Lib.hid hws;have Hcnt:=Lib.hid hcnt;have Hg1:=Lib.hid g1';have Ho:=Lib.hid hopn';have HJ:=Lib.hid hJ;have Hkl:=Lib.hid hkl;have Hr2:=Lib.hid r2
 clear hend hA X hk hi hcok hws hcnt g1' hopn' hJ hkl r2 hre hc hb1 hf h0 Ip hie hks r1 g1 g3 e1 e2 e3 he hsn hsl hsc hc0 hg hnow hopn
 conv=>arg 2;whnf
 go_upto_region 42 with fail
 refine Ni (i:=i) (k:=k) (by kernel_rfl) (λc d v a _ h=>HQp.out c d v a h) HA.out HJ.out Ho.out Hk.out Hkl.out Hi.out Hr2.out y0 y1 y2 y3 y4 y5 ?_
 rintro Xx Xg Zp Tt Yk Xj Wt Xl Yp Yq Uc Yb w3 ⟨hC3,hb3⟩
 obtain⟨bC,hbC⟩:∃ bC,bC=wi.heap.size:=⟨_,rfl⟩
 rw [<-hbC] at hC3 ⊢
 have hbg:w2.heap.size<=bC:=by rw [hbC];exact HA.out.rest.below.size
 have HBg:=Lib.hid hbg
 have HC3:=Lib.hid hC3;have HA3:=Lib.hid (HA.out.grown hb3)
 clear hC3 hb3 hbC hbg y0 y1 y2 y3 y4 y5 q0
 go_upto_region 43 with fail
 refine Ob (by kernel_rfl) (λc d v a _ h=>HQp.out c d v a h) HA3.out HJ.out HX.out.Jn Ho.out Hk.out Hkl.out HX.out.LC Hg1.out Hcnt.out Hws.out Hok.out HC3.out HBg.out HX.out.spec HX.out.base ?_
 rintro We Xo Xr Tn Tg Za Ty Ug Vm Ux Wp Yd Zh Wm Vk Yj Vo Xn Wh Xe Yy Xi Uz Va w4 ⟨hl',vs',L',ers',hA4⟩
 have HF:=Lib.hid (show jA w2 w4 J _ from⟨_,_,_,_,_,_,hA4⟩)
 clear hA4 HA3 HC3
 (simp only [Exit.inBlock,Exit.then])
 go_wp2
 exact HE.out _ _ _ _ _ _ _ _ _ _ _ _ _ _ _ _ _ _ _ _ _ _ _ _ _ _ _ _ _ _ _ _ _ _ _ _ _ _ _ _ _ _ _ _ _ _ _ _ _ _ HF.out
end
section
open Go.RowKit
def SI (X:Nat->Prop) (w w':World) (rp:iN) (e:Ending):Prop:=
 Below w.heap.size w w'/\∃(ea:Option Addr) (ec:Nat) (va:Option Addr) (vc:Nat) (lv:Value) (ers:List (Value×Value)),e=.returned (.tuple #[lC (.slice ea rp.evs.length ec) (.slice va rp.words.length vc) rp,lv,.int .i64 0])/\
  iQ X w.heap.size w' (.slice ea rp.evs.length ec) (.slice none 0 0) ers { rp with words:=[] }/\cB w' va rp.words.length 1 (fE rp.words)/\(0<rp.words.length->∀ b off,va=some ⟨b,off,none⟩->w.heap.size<=b)
theorem Nr {w w2 wr w5 w6:World} {J:RJ} {E:dS} {hl:List Value} {vs:List HV} {L:Value} {ea wa:Option Addr} {ec wcap:Nat} {ers:List (Value×Value)} {cs:Array Value} {y9:Value} {RP:iN} (hA:fM w2 wr J E hl vs L ea ec ers) {X:Nat->Prop} (hJ:∀ b,J.old b↔b=w.heap.size∨X b) (hb2:Below w.heap.size w w2) (hRP:RP=⟨E.evs,E.rw.mem.ws,E.rw.mem.c,E.rw.now,E.idle⟩)
  (hwq:0<E.rw.mem.ws.length->∃ q rest,J.bw=some q/\wa=some ⟨q,0,none⟩/\wr.heap[q]?=some (.cells (E.rw.mem.ws.map bI++rest).toArray 46 (0,0))) (OX:Chg (λb=>b=J.bO) wr w5) (hc6:Chg (λb=>b=w.heap.size) w5 w6)
  (hcs:lC (.slice ea E.evs.length ec) (.slice wa E.rw.mem.ws.length wcap) ⟨E.evs,E.rw.mem.ws,E.rw.mem.c,E.rw.now,E.idle⟩=.agg cs):SI X w w6 RP (.returned (.tuple #[.agg cs,y9,.int .i64 0])):=by
 subst hRP
 have hRl:=hA.rest.res _ ((hJ w.heap.size).2 (.inl rfl))
 have hOge:=hA.rest.ge.2.1
 have h2w:=hb2.size
 have hcc:Chg (λb=>b=J.bO∨b=w.heap.size) wr w6:=(OX.mono (λ_ _ e=>.inl e)).trans (hc6.mono (λ_ _ e=>.inr e))
 have hbw:Below w.heap.size w wr:=Gr.trans hb2 hA.rest.below
 have hM:∀ b,(b=J.bO∨b=w.heap.size)->iB J vs L (.slice ea E.evs.length ec) b:=λb e=>.inr (.inr (.inr (.inr (.inr (.inl (e.imp id (λe=>(hJ b).2 (.inl e))))))))
 have hOr:=hA.rest.out
 have hbel:Below w.heap.size w w6:=hbw.trans (hcc.below (λb e=>by rcases e with e|e<;>omega) hbw.size)
 refine⟨hbel,ea,ec,wa,wcap,y9,ers,?_,⟨?_,hA.rest.lens.2.2.2,λi hi=>?_,⟨rfl,.inl ⟨rfl,rfl⟩⟩⟩,?_,λh0 b off e=>?_⟩
 ·rw [<-hcs]
 ·refine bB (WA hA.rest.evs h2w) hcc (λb e e9=>?_)
  rcases e9 with e9|e9
  ·rw [e9] at e;exact dJ hA.rest.evs hOr (by decide) e
  ·have:=(hA.rest.evs.lt b e).1;omega
 ·obtain⟨g1,g2⟩:=hA.rest.lie i hi
  have hX:∀ b,X b->iB J vs L (.slice ea E.evs.length ec) b:=λb e=>.inr (.inr (.inr (.inr (.inr (.inl (.inr ((hJ b).2 (.inr e))))))))
  exact⟨(g1.keep hcc hM (aN.refl _ _)).less hX,(g2.keep hcc hM (aN.refl _ _)).less hX⟩
 ·show cB w6 wa E.rw.mem.ws.length 1 (fE E.rw.mem.ws)
  have hml:=hA.mem.len
  rcases Nat.eq_zero_or_pos E.rw.mem.ws.length with h0|h0
  ·rw [h0];exact cB.nil _ _ _ _
  ·obtain⟨q,rest,hq1,rfl,hq3⟩:=hwq h0
   have hqge:w2.heap.size<=q:=hA.rest.ge.2.2.2.2.2.2.1 q hq1
   have hqO:q≠J.bO:=dB hq3 hOr (by decide)
   have hq6:=(hcc.block q (aC hq3) (λe=>by rcases e with e|e;exact hqO e;omega)).trans hq3
   refine⟨by unfold maxLen;omega,λj hj=>⟨q,0,rfl,aC hq6,λf hf=>?_⟩⟩
   obtain rfl:f=0:=by omega
   rw [aA hq6]
   simp [fE,bI,List.getD_eq_getElem?_getD,hj,List.getElem?_append_left]
 ·obtain⟨q,rest,hq1,hq2,hq3⟩:=hwq h0
  have hqge:w2.heap.size<=q:=hA.rest.ge.2.2.2.2.2.2.1 q hq1
  rw [hq2] at e;cases e
  omega
end
section
open Go.RowKit
def xQ (X:Nat->Prop) (w w':World) (er:Int) (r:iN) (two:Bool) (e:Ending):Prop:=
  Below w.heap.size w w'/\∃(ea:Option Addr) (en ec:Nat) (va:Option Addr) (vn vc:Nat) (rp:iN) (lv:Value),e=.returned (.tuple (if two then #[lC (.slice ea en ec) (.slice va vn vc) rp,.int .i64 er] else #[lC (.slice ea en ec) (.slice va vn vc) rp,lv,.int .i64 er]))/\
    ((er≠0/\ea=none/\en=0/\ec=0/\va=none/\vn=0/\vc=0/\rp=⟨[],[],c0,0,0⟩)∨
     (er=0/\rp=r/\en=r.evs.length/\vn=r.words.length/\∃ ers,iQ X w.heap.size w' (.slice ea en ec) (.slice none 0 0) ers { r with words:=[] }/\cB w' va vn 1 (fE r.words)/\(0<r.words.length->∀ b off,va=some ⟨b,off,none⟩->w.heap.size<=b)))
theorem SI.any {X:Nat->Prop} {w w':World} {rp:iN} {e:Ending} (h:SI X w w' rp e):xQ X w w' 0 rp false e:=by
  obtain⟨hb,ea,ec,va,vc,lv,ers,rfl,h1,h2,h3⟩:=h
  exact⟨hb,ea,_,ec,va,_,vc,rp,lv,rfl,.inr ⟨rfl,rfl,rfl,rfl,ers,h1,h2,h3⟩⟩
set_option maxHeartbeats 4000000 in
theorem YK (X:Nat->Prop) (n:Int) (calls:List aD) (picks:List Int) (ca pa:Option Addr) (cc pc:Nat) (sv:Value) (rp:iN) (w:World) (hck:checkN n calls picks.length≠0) (hc:jD noB w ca calls) (hp:jU w pa picks) :
    Calls Tryz.prog 22 #[.int .i64 n,sv,.slice ca calls.length cc,.slice pa picks.length pc] w λe w'=>xQ X w w' (checkN n calls picks.length) rp false e:=by
  have W:=BI n calls picks.length ca pa cc pc (w.alloc (.cells #[.slice none 0 0,.slice none 0 0,.int .i64 0,.int .i64 0,.int .i64 0,.int .i64 0,.int .i64 0,.int .i64 0,.int .i64 0] 32)) (hc.grown (Gr.new _ _)).sl hp.sl.1
  obtain⟨er,her⟩:∃ er,er=checkN n calls picks.length:=⟨_,rfl⟩
  rw [<-her] at W hck ⊢
  have hn0:¬ er=0:=hck
  have HW:=Lib.hid W;have HN:=Lib.hid hck
  clear W hc hp her hck
  go_enter Tryz.func22,Tryz.ntmps22
  go_wp2_with fail
  refine HW.out.mono ?_
  rintro e w1 ⟨rfl,hb1⟩
  have Hb1:=Lib.hid hb1
  have hr1:=(hb1.block w.heap.size (by simp)).trans (heap_alloc_new w _)
  clear hb1
  · have Hr1:=Lib.hid hr1
    have g0:w1.cell? ⟨w.heap.size,0,none⟩=some (.slice none 0 0):=by rw [aA hr1];rfl
    have Pw:w1.frozen? ⟨w.heap.size,0,none⟩=false:=aB hr1 0
    have g1:w1.cell? ⟨w.heap.size,1,none⟩=some (.slice none 0 0):=by rw [aA hr1];rfl
    have Rk:w1.frozen? ⟨w.heap.size,1,none⟩=false:=aB hr1 1
    have g2:w1.cell? ⟨w.heap.size,2,none⟩=some (.int .i64 0):=by rw [aA hr1];rfl
    have Qa:w1.frozen? ⟨w.heap.size,2,none⟩=false:=aB hr1 2
    have g3:w1.cell? ⟨w.heap.size,3,none⟩=some (.int .i64 0):=by rw [aA hr1];rfl
    have Po:w1.frozen? ⟨w.heap.size,3,none⟩=false:=aB hr1 3
    have g4:w1.cell? ⟨w.heap.size,4,none⟩=some (.int .i64 0):=by rw [aA hr1];rfl
    have Sl:w1.frozen? ⟨w.heap.size,4,none⟩=false:=aB hr1 4
    have g5:w1.cell? ⟨w.heap.size,5,none⟩=some (.int .i64 0):=by rw [aA hr1];rfl
    have Ql:w1.frozen? ⟨w.heap.size,5,none⟩=false:=aB hr1 5
    have g6:w1.cell? ⟨w.heap.size,6,none⟩=some (.int .i64 0):=by rw [aA hr1];rfl
    have Qc:w1.frozen? ⟨w.heap.size,6,none⟩=false:=aB hr1 6
    have g7:w1.cell? ⟨w.heap.size,7,none⟩=some (.int .i64 0):=by rw [aA hr1];rfl
    have Qv:w1.frozen? ⟨w.heap.size,7,none⟩=false:=aB hr1 7
    have g8:w1.cell? ⟨w.heap.size,8,none⟩=some (.int .i64 0):=by rw [aA hr1];rfl
    have Px:w1.frozen? ⟨w.heap.size,8,none⟩=false:=aB hr1 8
    clear hr1
    go_wp2
    obtain⟨w7,hw7⟩:∃ w7,w7=(((((((((w1.setCell ⟨w.heap.size,0,none⟩ (.slice none 0 0)).setCell ⟨w.heap.size,1,none⟩ (.slice none 0 0)).setCell ⟨w.heap.size,2,none⟩ (.int .i64 0)).setCell ⟨w.heap.size,3,none⟩ (.int .i64 0)).setCell ⟨w.heap.size,4,none⟩ (.int .i64 0)).setCell ⟨w.heap.size,5,none⟩ (.int .i64 0)).setCell ⟨w.heap.size,6,none⟩ (.int .i64 0)).setCell ⟨w.heap.size,7,none⟩ (.int .i64 0)).setCell ⟨w.heap.size,8,none⟩ (.int .i64 0)):=⟨_,rfl⟩
    rw [<-hw7]
    have vZ:w7.heap[w.heap.size]?=some (.cells #[.slice none 0 0,.slice none 0 0,.int .i64 0,.int .i64 0,.int .i64 0,.int .i64 0,.int .i64 0,.int .i64 0,.int .i64 0] 32 (0,0)):=by rw [hw7,(aG (aG (aG (aG (aG (aG (aG (aG (aG Hr1.out _ _) _ _) _ _) _ _) _ _) _ _) _ _) _ _) _ _)];rfl
    have iD:Chg (λb=>b=w.heap.size) w1 w7:=by rw [hw7];exact(((((((((Chg.refl (λb=>b=w.heap.size) w1).setCell (by exact .inl rfl) _).setCell (by exact .inl rfl) _).setCell (by exact .inl rfl) _).setCell (by exact .inl rfl) _).setCell (by exact .inl rfl) _).setCell (by exact .inl rfl) _).setCell (by exact .inl rfl) _).setCell (by exact .inl rfl) _).setCell (by exact .inl rfl) _
    clear hw7
    have hld:=lQ w7 w.heap.size _ vZ rfl
    refine bodyPost_ret (v:=.tuple #[.agg #[.slice none 0 0,.slice none 0 0,.int .i64 0,.int .i64 0,.int .i64 0,.int .i64 0,.int .i64 0,.int .i64 0,.int .i64 0],.slice none 0 0,.int .i64 er]) (by simp [results,Tryz.results22 ,Sem.run_bind,Sem.run_pure,asAddr,hld]) rfl ?_
    have hall:Chg (λb=>w.heap.size<=b) w w7:=((Chg.of_below (Gr.new w (.cells #[.slice none 0 0,.slice none 0 0,.int .i64 0,.int .i64 0,.int .i64 0,.int .i64 0,.int .i64 0,.int .i64 0,.int .i64 0] 32))).trans (Chg.of_below Hb1.out)).trans (iD.mono (λb _ h=>by have h9:b=w.heap.size:=h;omega))
    exact⟨hall.below (λb h=>h) (Nat.le_refl _),none,0,0,none,0,0,⟨[],[],c0,0,0⟩,.slice none 0 0,rfl,.inl ⟨HN.out,rfl,rfl,rfl,rfl,rfl,rfl,rfl⟩⟩
set_option maxHeartbeats 4000000 in
theorem Fw (X:Nat->Prop) (n kd P Q:Int) (calls:List aD) (picks:List Int) (ca pa:Option Addr) (cc pc bS:Nat) (rp:iN) (w:World) (hck:checkN n calls picks.length=0) (hS:kM w bS kd P Q) (hc:jD noB w ca calls) (hp:jU w pa picks) (SC:∀ u:World,Calls Tryz.prog 55 #[.int .i64 n,.agg #[.int .i64 kd,.int .i64 P,.int .i64 Q]] u λe w'=>e=.returned (.int .i64 (-1))/\Below u.heap.size u w') :
    Calls Tryz.prog 22 #[.int .i64 n,.slice (some ⟨bS,0,none⟩) 1 1,.slice ca calls.length cc,.slice pa picks.length pc] w λe w'=>xQ X w w' 10 rp false e:=by
  have W:=BI n calls picks.length ca pa cc pc (w.alloc (.cells #[.slice none 0 0,.slice none 0 0,.int .i64 0,.int .i64 0,.int .i64 0,.int .i64 0,.int .i64 0,.int .i64 0,.int .i64 0] 32)) (hc.grown (Gr.new _ _)).sl hp.sl.1
  rw [hck] at W
  have HW:=Lib.hid W
  have HB:=Lib.hid (λ(u:World) (h:Below w.heap.size w u)=>Bz n kd P Q bS u (hS.grown h) SC)
  clear W hc hp hck hS SC
  go_enter Tryz.func22,Tryz.ntmps22
  go_wp2_with fail
  refine HW.out.mono ?_
  rintro e w1 ⟨rfl,hb1⟩
  have Hb1:=Lib.hid hb1
  have hr0:=(hb1.block w.heap.size (by simp)).trans (heap_alloc_new w _)
  have HR0:=Lib.hid hr0
  clear hb1 hr0
  go_wp2_with fail
  refine(HB.out _ (Gr.trans (Gr.new _ _) Hb1.out)).mono ?_
  rintro e w2 ⟨rfl,hb2⟩
  have hr1:=(hb2.block w.heap.size (aC HR0.out)).trans HR0.out
  have Hb2:=Lib.hid (Gr.trans Hb1.out hb2)
  clear hb2
  · have Hr1:=Lib.hid hr1
    have g0:w2.cell? ⟨w.heap.size,0,none⟩=some (.slice none 0 0):=by rw [aA hr1];rfl
    have Pw:w2.frozen? ⟨w.heap.size,0,none⟩=false:=aB hr1 0
    have g1:w2.cell? ⟨w.heap.size,1,none⟩=some (.slice none 0 0):=by rw [aA hr1];rfl
    have Rk:w2.frozen? ⟨w.heap.size,1,none⟩=false:=aB hr1 1
    have g2:w2.cell? ⟨w.heap.size,2,none⟩=some (.int .i64 0):=by rw [aA hr1];rfl
    have Qa:w2.frozen? ⟨w.heap.size,2,none⟩=false:=aB hr1 2
    have g3:w2.cell? ⟨w.heap.size,3,none⟩=some (.int .i64 0):=by rw [aA hr1];rfl
    have Po:w2.frozen? ⟨w.heap.size,3,none⟩=false:=aB hr1 3
    have g4:w2.cell? ⟨w.heap.size,4,none⟩=some (.int .i64 0):=by rw [aA hr1];rfl
    have Sl:w2.frozen? ⟨w.heap.size,4,none⟩=false:=aB hr1 4
    have g5:w2.cell? ⟨w.heap.size,5,none⟩=some (.int .i64 0):=by rw [aA hr1];rfl
    have Ql:w2.frozen? ⟨w.heap.size,5,none⟩=false:=aB hr1 5
    have g6:w2.cell? ⟨w.heap.size,6,none⟩=some (.int .i64 0):=by rw [aA hr1];rfl
    have Qc:w2.frozen? ⟨w.heap.size,6,none⟩=false:=aB hr1 6
    have g7:w2.cell? ⟨w.heap.size,7,none⟩=some (.int .i64 0):=by rw [aA hr1];rfl
    have Qv:w2.frozen? ⟨w.heap.size,7,none⟩=false:=aB hr1 7
    have g8:w2.cell? ⟨w.heap.size,8,none⟩=some (.int .i64 0):=by rw [aA hr1];rfl
    have Px:w2.frozen? ⟨w.heap.size,8,none⟩=false:=aB hr1 8
    clear hr1
    go_wp2
    obtain⟨w7,hw7⟩:∃ w7,w7=(((((((((w2.setCell ⟨w.heap.size,0,none⟩ (.slice none 0 0)).setCell ⟨w.heap.size,1,none⟩ (.slice none 0 0)).setCell ⟨w.heap.size,2,none⟩ (.int .i64 0)).setCell ⟨w.heap.size,3,none⟩ (.int .i64 0)).setCell ⟨w.heap.size,4,none⟩ (.int .i64 0)).setCell ⟨w.heap.size,5,none⟩ (.int .i64 0)).setCell ⟨w.heap.size,6,none⟩ (.int .i64 0)).setCell ⟨w.heap.size,7,none⟩ (.int .i64 0)).setCell ⟨w.heap.size,8,none⟩ (.int .i64 0)):=⟨_,rfl⟩
    rw [<-hw7]
    have vZ:w7.heap[w.heap.size]?=some (.cells #[.slice none 0 0,.slice none 0 0,.int .i64 0,.int .i64 0,.int .i64 0,.int .i64 0,.int .i64 0,.int .i64 0,.int .i64 0] 32 (0,0)):=by rw [hw7,(aG (aG (aG (aG (aG (aG (aG (aG (aG Hr1.out _ _) _ _) _ _) _ _) _ _) _ _) _ _) _ _) _ _)];rfl
    have iD:Chg (λb=>b=w.heap.size) w2 w7:=by rw [hw7];exact(((((((((Chg.refl (λb=>b=w.heap.size) w2).setCell (by exact .inl rfl) _).setCell (by exact .inl rfl) _).setCell (by exact .inl rfl) _).setCell (by exact .inl rfl) _).setCell (by exact .inl rfl) _).setCell (by exact .inl rfl) _).setCell (by exact .inl rfl) _).setCell (by exact .inl rfl) _).setCell (by exact .inl rfl) _
    clear hw7
    have hld:=lQ w7 w.heap.size _ vZ rfl
    refine bodyPost_ret (v:=.tuple #[.agg #[.slice none 0 0,.slice none 0 0,.int .i64 0,.int .i64 0,.int .i64 0,.int .i64 0,.int .i64 0,.int .i64 0,.int .i64 0],.slice none 0 0,.int .i64 10]) (by simp [results,Tryz.results22 ,Sem.run_bind,Sem.run_pure,asAddr,hld]) rfl ?_
    have hall:Chg (λb=>w.heap.size<=b) w w7:=((Chg.of_below (Gr.new w (.cells #[.slice none 0 0,.slice none 0 0,.int .i64 0,.int .i64 0,.int .i64 0,.int .i64 0,.int .i64 0,.int .i64 0,.int .i64 0] 32))).trans (Chg.of_below Hb2.out)).trans (iD.mono (λb _ h=>by have h9:b=w.heap.size:=h;omega))
    exact⟨hall.below (λb h=>h) (Nat.le_refl _),none,0,0,none,0,0,⟨[],[],c0,0,0⟩,.slice none 0 0,rfl,.inl ⟨by decide,rfl,rfl,rfl,rfl,rfl,rfl,rfl⟩⟩
theorem LU (X:Nat->Prop) (n:Int) (er:Int) (r:iN) (sv cv pv:Value) (w:World) (LG:∀ u:World,Below w.heap.size w u->w.heap.size<u.heap.size->Calls Tryz.prog 22 #[.int .i64 n,sv,cv,pv] u λe w'=>xQ (λb=>X b∨b=w.heap.size) u w' er r false e) :
    Calls Tryz.prog 10 #[.int .i64 n,sv,cv,pv] w λe w'=>xQ X w w' er r true e:=by
  have HL:=Lib.hid (LG (w.alloc (.cells #[.slice none 0 0,.slice none 0 0,.int .i64 0,.int .i64 0,.int .i64 0,.int .i64 0,.int .i64 0,.int .i64 0,.int .i64 0] 32)) (Gr.new _ _) (by simp))
  clear LG
  go_enter Tryz.func10,Tryz.ntmps10
  go_wp2_with fail
  refine HL.out.mono ?_
  rintro e w4 ⟨hb4,ea,en,ec,va,vn,vc,rp,lv,rfl,hres⟩
  obtain⟨cs,w7,hcs,hsz,hst,Ik,iD⟩:=zZ (w4.alloc (.cells #[.slice none 0 0,.slice none 0 0,.int .i64 0,.int .i64 0,.int .i64 0,.int .i64 0,.int .i64 0,.int .i64 0,.int .i64 0] 32)) w4.heap.size (.slice ea en ec) (.slice va vn vc) rp (heap_alloc_new _ _) rfl rfl
  have hr4:w4.heap[w.heap.size]?=_:=(hb4.block w.heap.size (by simp)).trans (heap_alloc_new w _)
  have h4l:=aC hr4
  have vZ:w7.heap[w.heap.size]?=_:=(iD.block w.heap.size (by simp;omega) (by omega)).trans ((Below.heap_alloc w4 _ _ h4l).trans hr4)
  obtain⟨cs2,w8,hcs2,hsz2,VX,NZ,Uf⟩:=zZ w7 w.heap.size (.slice ea en ec) (.slice va vn vc) rp vZ rfl rfl
  obtain rfl:cs2=cs:=by rw [hcs] at hcs2;injection hcs2 with h;exact h.symm
  have hrange:w7.rangeAt w4.heap.size 0 cs2.toList:=λj v hv=>by rw [Nat.zero_add,aA Ik];simpa using hv
  have hinfo:(Tryz.prog.info? 32).map (·.size)=some cs2.toList.length:=by rw [UX];simp [hsz]
  have Hrange:=Lib.hid hrange;have Hinfo:=Lib.hid hinfo
  clear hrange hinfo
  rw [hcs]
  simp only [Bool.false_eq_true,if_false]
  have HB4:=Lib.hid hb4;have HRes:=Lib.hid hres;have HC7:=Lib.hid iD;have HC8:=Lib.hid Uf;have HK8:=Lib.hid NZ;have HCS:=Lib.hid hcs
  clear hb4 hres iD Uf Ik NZ hcs hcs2 hr4 vZ
  go_wp2_with (refine wpList_load_mid rfl 32 _ rfl w4.heap.size 0 rfl cs2.toList _ Hrange.out Tryz.underlying32 rfl Hinfo.out ?_;rw [Array.toArray_toList])
  have hld:=lQ w8 w.heap.size cs2 HK8.out hsz
  refine bodyPost_ret (v:=.tuple #[.agg cs2,.int .i64 er]) (by simp [results,Tryz.results10 ,Sem.run_bind,Sem.run_pure,asAddr,hld]) rfl ?_
  have aAB:Chg (λb=>b=w4.heap.size∨b=w.heap.size) w4 w8:=((Chg.of_below (Gr.new w4 (.cells #[.slice none 0 0,.slice none 0 0,.int .i64 0,.int .i64 0,.int .i64 0,.int .i64 0,.int .i64 0,.int .i64 0,.int .i64 0] 32))).trans (HC7.out.mono (λ_ _ e=>.inl e))).trans (HC8.out.mono (λ_ _ e=>.inr e))
  have hw4:Below w.heap.size w w4:=Gr.trans (Gr.new _ _) HB4.out
  have hw4s:=hw4.size
  refine⟨hw4.trans (aAB.below (λb e=>by rcases e with e|e<;>omega) hw4.size),ea,en,ec,va,vn,vc,rp,lv,by rw [HCS.out];rfl,?_⟩
  rcases HRes.out with h|⟨h1,h2,h3,h4,ers,h5,h6,h7⟩
  · exact .inl h
  · have MO:Below w4.heap.size w4 w7:=(Gr.new w4 _).trans (HC7.out.below (λb e=>by omega) (Gr.new w4 (.cells #[.slice none 0 0,.slice none 0 0,.int .i64 0,.int .i64 0,.int .i64 0,.int .i64 0,.int .i64 0,.int .i64 0,.int .i64 0] 32)).size)
    have hsz1:(w.alloc (.cells #[.slice none 0 0,.slice none 0 0,.int .i64 0,.int .i64 0,.int .i64 0,.int .i64 0,.int .i64 0,.int .i64 0,.int .i64 0] 32)).heap.size=w.heap.size+1:=by simp
    refine .inr ⟨h1,h2,h3,h4,ers,((h5.grown MO).chg HC8.out (λb e=>⟨.inr e,by have e9:b=w.heap.size:=e;omega⟩)).low (by omega) (λb e=>.inl e),?_,λh0 b off e=>by have:=h7 h0 b off e;omega⟩
    rcases Nat.eq_zero_or_pos r.words.length with h0|h0
    · rw [h4,h0];exact cB.nil _ _ _ _
    · exact(h6.grown MO).chg HC8.out (λb off e e9=>by have:=h7 h0 b off e;have e8:b=w.heap.size:=e9;omega)
end
end Go.Proofs.YtfkokppncipgnaaGreat
