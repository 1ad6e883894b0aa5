/- A reference's play, whatever its object is: the rounds of roundelayplain.Log's last loop. -/
import Derived.Test.YtfkokppncipgnaaGreatV27
import Derived.Test.YtfkokppncipgnaaGreatV28
set_option maxRecDepth 100000
set_option linter.unusedVariables false
set_option linter.unusedSimpArgs false
set_option linter.unnecessarySimpa false
namespace Go.Proofs.YtfkokppncipgnaaGreat
section
open Go.RowKit
def rendTo (late:CallD->Nat->RHand->RWD->List Int) (calls:List CallD) (s:RefS) (p:Nat):RefS:={ s with evs:=(List.range p).foldl (rendEv late calls s) s.evs }
theorem rendTo_succ (late:CallD->Nat->RHand->RWD->List Int) (calls:List CallD) (s:RefS) (p:Nat):(rendTo late calls s (p+1)).evs=rendEv late calls s (rendTo late calls s p).evs p:=by
 unfold rendTo
 simp only
 rw [List.range_succ,List.foldl_append];rfl
theorem rendEv_len (late:CallD->Nat->RHand->RWD->List Int) (calls:List CallD) (s:RefS) (evs:List EvD) (p:Nat):(rendEv late calls s evs p).length=evs.length:=by
 unfold rendEv
 split
 ·exact modEv_length _ _ _
 ·rfl
theorem rendEv_call (late:CallD->Nat->RHand->RWD->List Int) (calls:List CallD) (s:RefS) (evs:List EvD) (p j:Nat):(evAt (rendEv late calls s evs p) j).call=(evAt evs j).call:=by
 unfold rendEv
 split
 ·refine evAt_mod ?_ _;intro x;rfl
 ·rfl
theorem rendTo_spec (late:CallD->Nat->RHand->RWD->List Int) (calls:List CallD) (s:RefS):∀ p,(rendTo late calls s p).evs.length=s.evs.length/\∀ j,(evAt (rendTo late calls s p).evs j).call=(evAt s.evs j).call
 | 0=>⟨rfl,λ_=>rfl⟩
 | p+1=>by
  obtain⟨h1,h2⟩:=rendTo_spec late calls s p
  rw [rendTo_succ]
  exact⟨(rendEv_len _ _ _ _ _).trans h1,λj=>(rendEv_call _ _ _ _ _ _).trans (h2 j)⟩
set_option maxHeartbeats 8000000 in
theorem log_shut {dO:CallD->TapeP->RWD->TapeP×RWD} {late:CallD->Nat->RHand->RWD->List Int} {Pre:CallD->TapeP->RWD->Prop} {nt sz:Nat} {kd P Q:Int} {calls:List CallD} {picks:List Int} {ca pa:Option Addr} {bS g:Nat} {w2:World} {J:RJ} (X:LogCtx dO late Pre nt sz kd P Q calls picks ca pa bS g w2 J) {cc gc:Nat} {K:Act->World->Prop} {Q0:Exit->Act->World->Prop} {c3 c4 c5 c6 c7 c8 c9 c10 c11 c13 c14 c16 c18 c20 c21 c22 c23 c27 c28 c29 c30 c31 c32 c33 c34 c35 c36 c37 c38 c39 c40 c41 c42 c43 c44 c45 c46 c47 c48 c49 c50 c51 c52 c53 c54 c55 c56 c57 c58 c59 c60 c61 c62 c63 c64 c65 c66 c67 c68 c69 c70 c71 c72 c73 c74 c75 c76 c77 c78 c79 c80 c81 c82 c83 c84 c85 c86 c87 c88 c89 c90 c91 c92 c93 c94 c95 c96 c97 c98 c99 c100 c101 c102 c103 c104 c105 c106 c107 c108 c109 c110 c111 c112 c113 c114 c115 c116 c117 c118 c119 c120 c121 c122 c123 c124 c125 c126 c127 c128 c129 c130 c131 c132 c133 c134 c135 c136 c137 c138 c139 c140 c141 c142 c143 c144 c145 c146 c147 c148 c149 c150 c151 c152 c153 c154 c155 c156 c157 c158 c159 c160 c161 c162 c163 c164 c165 c166 c167 c168 c169 c170 c171 c172 c173 c174 c175 c176 c177 c178 c179 c180 c181 c182 c183 c184 c185 c186 c187 c188 c189 c190 c191 c192 c193 c194 c195 c196 c197 c198 c199 c200 c201 c202 c203 c204 c205 c206 c207 c256 c257 c258 c259 c260 c261 c262 c263 c264 c265 c266 c267 c268 c269 c270 c271 c272 c273 c274 c275 c276 c277 u24 u25 u26 u210 u211 u212 u213 u214 u215 u216 u217 u218 u219 u220 u221 u222 u223 u224 u225 u226 u227 u228 u229 u230 u231 u232 u233 u234 u235 u236 u237 u238 u239 u240 u241 u242 u243 u244 u245 u246 u247 u248 u249 u250 u251 u252 u253 u254 u255:Value} {wi:World} {p:Nat} {s:RefS} {cd:Code} (hcd:cd=logBody3) (hlt:p<nt) (hQp:∀ c d v (a:Act) {w},Q0 (.panic c) (a.put d v) w->Q0 (.panic c) a w) (hA:LogAt w2 wi J (rendTo late calls s p)) (hg:RGood nt sz calls s) (hnow:s.rw.now<=1000000) (hopn:(s.hands.getD p rh0).opn=false)
  (hend:∀(u24 u25 u26 u210 u211 u212 u213 u214 u215 u216 u217 u218 u219 u220 u221 u222 u223 u224 u225 u226 u227 u228 u229 u230 u231 u232 u233 u234 u235 u236 u237 u238 u239 u240 u241 u242 u243 u244 u245 u246 u247 u248 u249 u250 u251 u252 u253 u254 u255:Value) (w'':World),LogAt w2 w'' J (rendTo late calls s (p+1))->K ⟨#[.int .i64 (nt:Int),.slice (some ⟨bS,0,none⟩) 1 1,.slice ca calls.length cc,c3,c4,c5,c6,c7,c8,c9,c10,c11,.slice (some ⟨g,0,none⟩) 1 gc,c13,c14,.pointer (some ⟨J.bW,0,none⟩),c16,.slice (some ⟨J.bH,0,none⟩) nt nt,c18,.pointer (some ⟨J.bO,0,none⟩),c20,c21,c22,c23,u24,u25,u26,c27,c28,c29,c30,c31,c32,c33,c34,c35,c36,c37,c38,c39,c40,c41,c42,c43,c44,c45,c46,c47,c48,c49,c50,c51,c52,c53,c54,c55,c56,c57,c58,c59,c60,c61,c62,c63,c64,c65,c66,c67,c68,c69,c70,c71,c72,c73,c74,c75,c76,c77,c78,c79,c80,c81,c82,c83,c84,c85,c86,c87,c88,c89,c90,c91,c92,c93,c94,c95,c96,c97,c98,c99,c100,c101,c102,c103,c104,c105,c106,c107,c108,c109,c110,c111,c112,c113,c114,c115,c116,c117,c118,c119,c120,c121,c122,c123,c124,c125,c126,c127,c128,c129,c130,c131,c132,c133,c134,c135,c136,c137,c138,c139,c140,c141,c142,c143,c144,c145,c146,c147,c148,c149,c150,c151,c152,c153,c154,c155,c156,c157,c158,c159,c160,c161,c162,c163,c164,c165,c166,c167,c168,c169,c170,c171,c172,c173,c174,c175,c176,c177,c178,c179,c180,c181,c182,c183,c184,c185,c186,c187,c188,c189,c190,c191,c192,c193,c194,c195,c196,c197,c198,c199,c200,c201,c202,c203,c204,c205,c206,c207,.int .i64 (nt:Int),.int .i64 ((p+1:Nat):Int),u210,u211,u212,u213,u214,u215,u216,u217,u218,u219,u220,u221,u222,u223,u224,u225,u226,u227,u228,u229,u230,u231,u232,u233,u234,u235,u236,u237,u238,u239,u240,u241,u242,u243,u244,u245,u246,u247,u248,u249,u250,u251,u252,u253,u254,u255,c256,c257,c258,c259,c260,c261,c262,c263,c264,c265,c266,c267,c268,c269,c270,c271,c272,c273,c274,c275,c276,c277],[]⟩ w'') :
  Code.wp Tryz.prog cd (Exit.then K Q0) ⟨#[.int .i64 (nt:Int),.slice (some ⟨bS,0,none⟩) 1 1,.slice ca calls.length cc,c3,c4,c5,c6,c7,c8,c9,c10,c11,.slice (some ⟨g,0,none⟩) 1 gc,c13,c14,.pointer (some ⟨J.bW,0,none⟩),c16,.slice (some ⟨J.bH,0,none⟩) nt nt,c18,.pointer (some ⟨J.bO,0,none⟩),c20,c21,c22,c23,u24,u25,u26,c27,c28,c29,c30,c31,c32,c33,c34,c35,c36,c37,c38,c39,c40,c41,c42,c43,c44,c45,c46,c47,c48,c49,c50,c51,c52,c53,c54,c55,c56,c57,c58,c59,c60,c61,c62,c63,c64,c65,c66,c67,c68,c69,c70,c71,c72,c73,c74,c75,c76,c77,c78,c79,c80,c81,c82,c83,c84,c85,c86,c87,c88,c89,c90,c91,c92,c93,c94,c95,c96,c97,c98,c99,c100,c101,c102,c103,c104,c105,c106,c107,c108,c109,c110,c111,c112,c113,c114,c115,c116,c117,c118,c119,c120,c121,c122,c123,c124,c125,c126,c127,c128,c129,c130,c131,c132,c133,c134,c135,c136,c137,c138,c139,c140,c141,c142,c143,c144,c145,c146,c147,c148,c149,c150,c151,c152,c153,c154,c155,c156,c157,c158,c159,c160,c161,c162,c163,c164,c165,c166,c167,c168,c169,c170,c171,c172,c173,c174,c175,c176,c177,c178,c179,c180,c181,c182,c183,c184,c185,c186,c187,c188,c189,c190,c191,c192,c193,c194,c195,c196,c197,c198,c199,c200,c201,c202,c203,c204,c205,c206,c207,.int .i64 (nt:Int),.int .i64 (p:Int),u210,u211,u212,u213,u214,u215,u216,u217,u218,u219,u220,u221,u222,u223,u224,u225,u226,u227,u228,u229,u230,u231,u232,u233,u234,u235,u236,u237,u238,u239,u240,u241,u242,u243,u244,u245,u246,u247,u248,u249,u250,u251,u252,u253,u254,u255,c256,c257,c258,c259,c260,c261,c262,c263,c264,c265,c266,c267,c268,c269,c270,c271,c272,c273,c274,c275,c276,c277],[]⟩ wi:=by
 subst hcd
 have HQp:=Lib.hid hQp
 clear hQp
 obtain⟨hsl,hsc⟩:=rendTo_spec late calls s p
 have hsn:=rendTo_succ late calls s p
 have hnc:=X.nc;have hn16:=X.nt16
 obtain⟨hl,vs,L,ea,ec,ers,hA⟩:=hA
 have hJ:p<J.nt:=by rw [X.Jn];exact hlt
 obtain⟨e,he⟩:∃ e,e=rendTo late calls s p:=⟨_,rfl⟩
 have e1:e.hands=s.hands:=by rw [he];rfl
 have e2:e.rw=s.rw:=by rw [he];rfl
 have e3:rendTo late calls s (p+1)={ e with evs:=rendEv late calls s e.evs p }:=by
  have h9:rendTo late calls s (p+1)={ (rendTo late calls s p) with evs:=(rendTo late calls s (p+1)).evs }:=rfl
  rw [h9,hsn,<-he]
 rw [<-he] at hA hsl hsc
 rw [e3] at hend
 have hc0:=hA.rest.c0 p hJ
 have l1:(p:Int)<(nt:Int):=by omega
 have l0:¬ (p:Int)<0:=by omega
 have lpw:IntKind.i64.wrap (p:Int)=(p:Int):=by rw [IntKind.wrap_i64];omega
 have lk:wrap64 ((p:Int)+1)=((p+1:Nat):Int):=by unfold wrap64;omega
 have lk2:IntKind.i64.wrap ((p:Int)+1)=((p+1:Nat):Int):=by rw [IntKind.wrap_i64];omega
 have q0:wi.cell? ⟨J.bH,p*16,none⟩=some (.bool (e.hands.getD p rh0).opn):=by rw [cell_blk hA.hb,Nat.mul_comm];simpa using hc0
 rw [e1,hopn] at q0
 have hfin:LogAt w2 wi J { e with evs:=rendEv late calls s e.evs p }:=by
  have h9:rendEv late calls s e.evs p=e.evs:=by unfold rendEv;rw [if_neg (by rw [hopn];exact Bool.false_ne_true)]
  rw [h9];exact⟨_,_,_,_,_,_,hA⟩
 have HF:=Lib.hid hfin;have HE:=Lib.hid hend
 clear hfin hend hA hc0 e1 e2 e3 he hsn hsl hsc X hJ
 conv=>arg 2;whnf
 go_wp2
 exact HE.out _ _ _ _ _ _ _ _ _ _ _ _ _ _ _ _ _ _ _ _ _ _ _ _ _ _ _ _ _ _ _ _ _ _ _ _ _ _ _ _ _ _ _ _ _ _ _ _ _ _ HF.out
set_option maxHeartbeats 8000000 in
theorem log_late {dO:CallD->TapeP->RWD->TapeP×RWD} {late:CallD->Nat->RHand->RWD->List Int} {Pre:CallD->TapeP->RWD->Prop} {nt sz:Nat} {kd P Q:Int} {calls:List CallD} {picks:List Int} {ca pa:Option Addr} {bS g:Nat} {w2:World} {J:RJ} (X:LogCtx dO late Pre nt sz kd P Q calls picks ca pa bS g w2 J) {cc gc:Nat} {K:Act->World->Prop} {Q0:Exit->Act->World->Prop} {c3 c4 c5 c6 c7 c8 c9 c10 c11 c13 c14 c16 c18 c20 c21 c22 c23 c27 c28 c29 c30 c31 c32 c33 c34 c35 c36 c37 c38 c39 c40 c41 c42 c43 c44 c45 c46 c47 c48 c49 c50 c51 c52 c53 c54 c55 c56 c57 c58 c59 c60 c61 c62 c63 c64 c65 c66 c67 c68 c69 c70 c71 c72 c73 c74 c75 c76 c77 c78 c79 c80 c81 c82 c83 c84 c85 c86 c87 c88 c89 c90 c91 c92 c93 c94 c95 c96 c97 c98 c99 c100 c101 c102 c103 c104 c105 c106 c107 c108 c109 c110 c111 c112 c113 c114 c115 c116 c117 c118 c119 c120 c121 c122 c123 c124 c125 c126 c127 c128 c129 c130 c131 c132 c133 c134 c135 c136 c137 c138 c139 c140 c141 c142 c143 c144 c145 c146 c147 c148 c149 c150 c151 c152 c153 c154 c155 c156 c157 c158 c159 c160 c161 c162 c163 c164 c165 c166 c167 c168 c169 c170 c171 c172 c173 c174 c175 c176 c177 c178 c179 c180 c181 c182 c183 c184 c185 c186 c187 c188 c189 c190 c191 c192 c193 c194 c195 c196 c197 c198 c199 c200 c201 c202 c203 c204 c205 c206 c207 c256 c257 c258 c259 c260 c261 c262 c263 c264 c265 c266 c267 c268 c269 c270 c271 c272 c273 c274 c275 c276 c277 u24 u25 u26 u210 u211 u212 u213 u214 u215 u216 u217 u218 u219 u220 u221 u222 u223 u224 u225 u226 u227 u228 u229 u230 u231 u232 u233 u234 u235 u236 u237 u238 u239 u240 u241 u242 u243 u244 u245 u246 u247 u248 u249 u250 u251 u252 u253 u254 u255:Value} {wi:World} {p:Nat} {s:RefS} {cd:Code} (hcd:cd=logBody3) (hlt:p<nt) (hQp:∀ c d v (a:Act) {w},Q0 (.panic c) (a.put d v) w->Q0 (.panic c) a w) (hA:LogAt w2 wi J (rendTo late calls s p)) (hg:RGood nt sz calls s) (hnow:s.rw.now<=1000000) (hopn:(s.hands.getD p rh0).opn=true)
  (hend:∀(u24 u25 u26 u210 u211 u212 u213 u214 u215 u216 u217 u218 u219 u220 u221 u222 u223 u224 u225 u226 u227 u228 u229 u230 u231 u232 u233 u234 u235 u236 u237 u238 u239 u240 u241 u242 u243 u244 u245 u246 u247 u248 u249 u250 u251 u252 u253 u254 u255:Value) (w'':World),LogAt w2 w'' J (rendTo late calls s (p+1))->K ⟨#[.int .i64 (nt:Int),.slice (some ⟨bS,0,none⟩) 1 1,.slice ca calls.length cc,c3,c4,c5,c6,c7,c8,c9,c10,c11,.slice (some ⟨g,0,none⟩) 1 gc,c13,c14,.pointer (some ⟨J.bW,0,none⟩),c16,.slice (some ⟨J.bH,0,none⟩) nt nt,c18,.pointer (some ⟨J.bO,0,none⟩),c20,c21,c22,c23,u24,u25,u26,c27,c28,c29,c30,c31,c32,c33,c34,c35,c36,c37,c38,c39,c40,c41,c42,c43,c44,c45,c46,c47,c48,c49,c50,c51,c52,c53,c54,c55,c56,c57,c58,c59,c60,c61,c62,c63,c64,c65,c66,c67,c68,c69,c70,c71,c72,c73,c74,c75,c76,c77,c78,c79,c80,c81,c82,c83,c84,c85,c86,c87,c88,c89,c90,c91,c92,c93,c94,c95,c96,c97,c98,c99,c100,c101,c102,c103,c104,c105,c106,c107,c108,c109,c110,c111,c112,c113,c114,c115,c116,c117,c118,c119,c120,c121,c122,c123,c124,c125,c126,c127,c128,c129,c130,c131,c132,c133,c134,c135,c136,c137,c138,c139,c140,c141,c142,c143,c144,c145,c146,c147,c148,c149,c150,c151,c152,c153,c154,c155,c156,c157,c158,c159,c160,c161,c162,c163,c164,c165,c166,c167,c168,c169,c170,c171,c172,c173,c174,c175,c176,c177,c178,c179,c180,c181,c182,c183,c184,c185,c186,c187,c188,c189,c190,c191,c192,c193,c194,c195,c196,c197,c198,c199,c200,c201,c202,c203,c204,c205,c206,c207,.int .i64 (nt:Int),.int .i64 ((p+1:Nat):Int),u210,u211,u212,u213,u214,u215,u216,u217,u218,u219,u220,u221,u222,u223,u224,u225,u226,u227,u228,u229,u230,u231,u232,u233,u234,u235,u236,u237,u238,u239,u240,u241,u242,u243,u244,u245,u246,u247,u248,u249,u250,u251,u252,u253,u254,u255,c256,c257,c258,c259,c260,c261,c262,c263,c264,c265,c266,c267,c268,c269,c270,c271,c272,c273,c274,c275,c276,c277],[]⟩ w'') :
  Code.wp Tryz.prog cd (Exit.then K Q0) ⟨#[.int .i64 (nt:Int),.slice (some ⟨bS,0,none⟩) 1 1,.slice ca calls.length cc,c3,c4,c5,c6,c7,c8,c9,c10,c11,.slice (some ⟨g,0,none⟩) 1 gc,c13,c14,.pointer (some ⟨J.bW,0,none⟩),c16,.slice (some ⟨J.bH,0,none⟩) nt nt,c18,.pointer (some ⟨J.bO,0,none⟩),c20,c21,c22,c23,u24,u25,u26,c27,c28,c29,c30,c31,c32,c33,c34,c35,c36,c37,c38,c39,c40,c41,c42,c43,c44,c45,c46,c47,c48,c49,c50,c51,c52,c53,c54,c55,c56,c57,c58,c59,c60,c61,c62,c63,c64,c65,c66,c67,c68,c69,c70,c71,c72,c73,c74,c75,c76,c77,c78,c79,c80,c81,c82,c83,c84,c85,c86,c87,c88,c89,c90,c91,c92,c93,c94,c95,c96,c97,c98,c99,c100,c101,c102,c103,c104,c105,c106,c107,c108,c109,c110,c111,c112,c113,c114,c115,c116,c117,c118,c119,c120,c121,c122,c123,c124,c125,c126,c127,c128,c129,c130,c131,c132,c133,c134,c135,c136,c137,c138,c139,c140,c141,c142,c143,c144,c145,c146,c147,c148,c149,c150,c151,c152,c153,c154,c155,c156,c157,c158,c159,c160,c161,c162,c163,c164,c165,c166,c167,c168,c169,c170,c171,c172,c173,c174,c175,c176,c177,c178,c179,c180,c181,c182,c183,c184,c185,c186,c187,c188,c189,c190,c191,c192,c193,c194,c195,c196,c197,c198,c199,c200,c201,c202,c203,c204,c205,c206,c207,.int .i64 (nt:Int),.int .i64 (p:Int),u210,u211,u212,u213,u214,u215,u216,u217,u218,u219,u220,u221,u222,u223,u224,u225,u226,u227,u228,u229,u230,u231,u232,u233,u234,u235,u236,u237,u238,u239,u240,u241,u242,u243,u244,u245,u246,u247,u248,u249,u250,u251,u252,u253,u254,u255,c256,c257,c258,c259,c260,c261,c262,c263,c264,c265,c266,c267,c268,c269,c270,c271,c272,c273,c274,c275,c276,c277],[]⟩ wi:=by
 subst hcd
 have HQp:=Lib.hid hQp
 clear hQp
 obtain⟨hsl,hsc⟩:=rendTo_spec late calls s p
 have hsn:=rendTo_succ late calls s p
 have hnc:=X.nc;have hn16:=X.nt16
 obtain⟨hl,vs,L,ea,ec,ers,hA⟩:=hA
 have hJ:p<J.nt:=by rw [X.Jn];exact hlt
 obtain⟨e,he⟩:∃ e,e=rendTo late calls s p:=⟨_,rfl⟩
 have e1:e.hands=s.hands:=by rw [he];rfl
 have e2:e.rw=s.rw:=by rw [he];rfl
 have e3:rendTo late calls s (p+1)={ e with evs:=rendEv late calls s e.evs p }:=by
  have h9:rendTo late calls s (p+1)={ (rendTo late calls s p) with evs:=(rendTo late calls s (p+1)).evs }:=rfl
  rw [h9,hsn,<-he]
 rw [<-he] at hA hsl hsc
 rw [e3] at hend
 have hc0:=hA.rest.c0 p hJ
 have l1:(p:Int)<(nt:Int):=by omega
 have l0:¬ (p:Int)<0:=by omega
 have lpw:IntKind.i64.wrap (p:Int)=(p:Int):=by rw [IntKind.wrap_i64];omega
 have lk:wrap64 ((p:Int)+1)=((p+1:Nat):Int):=by unfold wrap64;omega
 have lk2:IntKind.i64.wrap ((p:Int)+1)=((p+1:Nat):Int):=by rw [IntKind.wrap_i64];omega
 have q0:wi.cell? ⟨J.bH,p*16,none⟩=some (.bool (e.hands.getD p rh0).opn):=by rw [cell_blk hA.hb,Nat.mul_comm];simpa using hc0
 rw [e1,hopn] at q0
 have hopn':(e.hands.getD p rh0).opn=true:=by rw [e1];exact hopn
 obtain⟨g1,_,g3⟩:=hg.hand p hlt
 obtain⟨r1,r2,r3⟩:=g3 hopn
 have g1':(e.hands.getD p rh0).got.length<=1000000:=by rw [e1];exact Nat.le_trans g1 hnow
 obtain⟨k,hk⟩:∃ k,k=(e.hands.getD p rh0).ev:=⟨_,rfl⟩
 have hks:(s.hands.getD p rh0).ev=k:=by rw [hk,e1]
 rw [hks] at r1 r2 r3
 have hkl:k<e.evs.length:=by rw [hsl];exact r1
 obtain⟨i,hi⟩:∃ i,i=(e.evs.getD k ev0).call:=⟨_,rfl⟩
 have hie:(evAt s.evs k).call=i:=by rw [<-hsc k,hi];rfl
 rw [hie] at r2 r3
 obtain⟨cb,co,rfl,hcb,hcc9⟩:=X.clsAt.sl.2 i r2
 obtain⟨c,hc⟩:∃ c,c=calls.getD i d0:=⟨_,rfl⟩
 have hb1:=hA.rest.below
 have hf:∀ f,f<6->wi.cell? ⟨cb,co+i*6+f,none⟩=some (callG calls i f):=λf hf=>by rw [(hb1.cell (p:=⟨cb,co+i*6+f,none⟩) hcb),Nat.add_assoc];exact hcc9 f hf
 have h0:=hf 0 (by omega);rw [Nat.add_zero] at h0
 have y0:wi.cell? ⟨cb,co+i*6,none⟩=some (.int .i64 c.thread):=h0.trans (by rw [hc];rfl)
 have y1:wi.cell? ⟨cb,co+i*6+1,none⟩=some (.int .i64 c.obj):=(hf 1 (by omega)).trans (by rw [hc];rfl)
 have y2:wi.cell? ⟨cb,co+i*6+2,none⟩=some (.int .i64 c.kind):=(hf 2 (by omega)).trans (by rw [hc];rfl)
 have y3:wi.cell? ⟨cb,co+i*6+3,none⟩=some (.int .u64 (c.a:Int)):=(hf 3 (by omega)).trans (by rw [hc];rfl)
 have y4:wi.cell? ⟨cb,co+i*6+4,none⟩=some (.int .u64 (c.b:Int)):=(hf 4 (by omega)).trans (by rw [hc];rfl)
 have y5:wi.cell? ⟨cb,co+i*6+5,none⟩=some (.int .u64 (c.c:Int)):=(hf 5 (by omega)).trans (by rw [hc];rfl)
 have hcok:CallOk c:=X.clsAt.ok c (by rw [hc,List.getD_eq_getElem?_getD,List.getElem?_eq_getElem r2];exact List.getElem_mem r2)
 rw [<-hc] at r3
 have hre:rendEv late calls s e.evs p=modEv e.evs k (keyTo (late c p (e.hands.getD p rh0) e.rw)):=by
  unfold rendEv
  rw [if_pos hopn,hks]
  show e.evs.set k { e.evs.getD k ev0 with key:=late (calls.getD (e.evs.getD k ev0).call d0) p (s.hands.getD p rh0) s.rw }=e.evs.set k { e.evs.getD k ev0 with key:=late c p (e.hands.getD p rh0) e.rw }
  rw [<-hi,<-hc,e1,e2]
 rw [hre] at hend
 have hws:0<e.rw.mem.ws.length:=by rw [e2,hg.ws];exact X.hs0
 have hcnt:e.rw.mem.c.all<=1000000:=by rw [e2];exact Nat.le_trans hg.all hnow
 obtain⟨th,ob,kn,xa,xb,xc⟩:=c
 simp only at r3 y0 y1 y2 y3 y4 y5
 subst r3
 have HE:=Lib.hid hend;have HA:=Lib.hid hA;have HX:=Lib.hid X;have Hk:=Lib.hid hk;have Hi:=Lib.hid hi;have Hok:=Lib.hid hcok;have Hws:=Lib.hid hws;have Hcnt:=Lib.hid hcnt;have Hg1:=Lib.hid g1';have Ho:=Lib.hid hopn';have HJ:=Lib.hid hJ;have Hkl:=Lib.hid hkl;have Hr2:=Lib.hid r2
 clear hend hA X hk hi hcok hws hcnt g1' hopn' hJ hkl r2 hre hc hb1 hf h0 hcc9 hie hks r1 g1 g3 e1 e2 e3 he hsn hsl hsc hc0 hg hnow hopn
 conv=>arg 2;whnf
 go_upto_region 42 with fail
 refine log_r42 (i:=i) (k:=k) (by kernel_rfl) (λc d v a _ h=>HQp.out c d v a h) HA.out HJ.out Ho.out Hk.out Hkl.out Hi.out Hr2.out y0 y1 y2 y3 y4 y5 ?_
 rintro y219 y220 y221 y222 y223 y224 y225 y226 y227 y228 y229 y230 w3 ⟨hC3,hb3⟩
 obtain⟨bC,hbC⟩:∃ bC,bC=wi.heap.size:=⟨_,rfl⟩
 rw [<-hbC] at hC3 ⊢
 have hbg:w2.heap.size<=bC:=by rw [hbC];exact HA.out.rest.below.size
 have HBg:=Lib.hid hbg
 have HC3:=Lib.hid hC3;have HA3:=Lib.hid (HA.out.grown hb3)
 clear hC3 hb3 hbC hbg y0 y1 y2 y3 y4 y5 q0
 go_upto_region 43 with fail
 refine log_r43 (by kernel_rfl) (λc d v a _ h=>HQp.out c d v a h) HA3.out HJ.out HX.out.Jn Ho.out Hk.out Hkl.out HX.out.LC Hg1.out Hcnt.out Hws.out Hok.out HC3.out HBg.out HX.out.spec HX.out.base ?_
 rintro y231 y232 y233 y234 y235 y236 y237 y238 y239 y240 y241 y242 y243 y244 y245 y246 y247 y248 y249 y250 y251 y252 y253 y254 w4 ⟨hl',vs',L',ers',hA4⟩
 have HF:=Lib.hid (show LogAt w2 w4 J _ from⟨_,_,_,_,_,_,hA4⟩)
 clear hA4 HA3 HC3
 (simp only [Exit.inBlock,Exit.then])
 go_wp2
 exact HE.out _ _ _ _ _ _ _ _ _ _ _ _ _ _ _ _ _ _ _ _ _ _ _ _ _ _ _ _ _ _ _ _ _ _ _ _ _ _ _ _ _ _ _ _ _ _ _ _ _ _ HF.out
end
section

/- A reference's play, whatever its object is: what it hands out. -/
open Go.RowKit
def RefRet (X:Nat->Prop) (w w':World) (rp:RepD) (e:Ending):Prop:=
 Below w.heap.size w w'/\∃(ea:Option Addr) (ec:Nat) (va:Option Addr) (vc:Nat) (lv:Value) (ers:List (Value×Value)),e=.returned (.tuple #[repV (.slice ea rp.evs.length ec) (.slice va rp.words.length vc) rp,lv,.int .i64 0])/\
  RepAt X w.heap.size w' (.slice ea rp.evs.length ec) (.slice none 0 0) ers { rp with words:=[] }/\SlAt w' va rp.words.length 1 (u64G rp.words)/\(0<rp.words.length->∀ b off,va=some ⟨b,off,none⟩->w.heap.size<=b)
theorem log_ret {w w2 wr w5 w6:World} {J:RJ} {E:RefS} {hl:List Value} {vs:List HV} {L:Value} {ea wa:Option Addr} {ec wcap:Nat} {ers:List (Value×Value)} {cs:Array Value} {y9:Value} {RP:RepD} (hA:LogA w2 wr J E hl vs L ea ec ers) {X:Nat->Prop} (hJ:∀ b,J.old b↔b=w.heap.size∨X b) (hb2:Below w.heap.size w w2) (hRP:RP=⟨E.evs,E.rw.mem.ws,E.rw.mem.c,E.rw.now,E.idle⟩)
  (hwq:0<E.rw.mem.ws.length->∃ q rest,J.bw=some q/\wa=some ⟨q,0,none⟩/\wr.heap[q]?=some (.cells (E.rw.mem.ws.map u64V++rest).toArray 46 (0,0))) (hc5:Chg (λb=>b=J.bO) wr w5) (hc6:Chg (λb=>b=w.heap.size) w5 w6)
  (hcs:repV (.slice ea E.evs.length ec) (.slice wa E.rw.mem.ws.length wcap) ⟨E.evs,E.rw.mem.ws,E.rw.mem.c,E.rw.now,E.idle⟩=.agg cs):RefRet X w w6 RP (.returned (.tuple #[.agg cs,y9,.int .i64 0])):=by
 subst hRP
 have hRl:=hA.rest.res _ ((hJ w.heap.size).2 (.inl rfl))
 have hOge:=hA.rest.ge.2.1
 have h2w:=hb2.size
 have hcc:Chg (λb=>b=J.bO∨b=w.heap.size) wr w6:=(hc5.mono (λ_ _ e=>.inl e)).trans (hc6.mono (λ_ _ e=>.inr e))
 have hbw:Below w.heap.size w wr:=Gr.trans hb2 hA.rest.below
 have hM:∀ b,(b=J.bO∨b=w.heap.size)->LMut J vs L (.slice ea E.evs.length ec) b:=λb e=>.inr (.inr (.inr (.inr (.inr (.inl (e.imp id (λe=>(hJ b).2 (.inl e))))))))
 have hOr:=hA.rest.out
 have hbel:Below w.heap.size w w6:=hbw.trans (hcc.below (λb e=>by rcases e with e|e<;>omega) hbw.size)
 refine⟨hbel,ea,ec,wa,wcap,y9,ers,?_,⟨?_,hA.rest.lens.2.2.2,λi hi=>?_,⟨rfl,.inl ⟨rfl,rfl⟩⟩⟩,?_,λh0 b off e=>?_⟩
 ·rw [<-hcs]
 ·refine row_chg (row_base hA.rest.evs h2w) hcc (λb e e9=>?_)
  rcases e9 with e9|e9
  ·rw [e9] at e;exact row_ne hA.rest.evs hOr (by decide) e
  ·have:=(hA.rest.evs.lt b e).1;omega
 ·obtain⟨g1,g2⟩:=hA.rest.lie i hi
  have hX:∀ b,X b->LMut J vs L (.slice ea E.evs.length ec) b:=λb e=>.inr (.inr (.inr (.inr (.inr (.inl (.inr ((hJ b).2 (.inr e))))))))
  exact⟨(g1.keep hcc hM (MutUp.refl _ _)).less hX,(g2.keep hcc hM (MutUp.refl _ _)).less hX⟩
 ·show SlAt w6 wa E.rw.mem.ws.length 1 (u64G E.rw.mem.ws)
  have hml:=hA.mem.len
  rcases Nat.eq_zero_or_pos E.rw.mem.ws.length with h0|h0
  ·rw [h0];exact SlAt.nil _ _ _ _
  ·obtain⟨q,rest,hq1,rfl,hq3⟩:=hwq h0
   have hqge:w2.heap.size<=q:=hA.rest.ge.2.2.2.2.2.2.1 q hq1
   have hqO:q≠J.bO:=blk_ne9 hq3 hOr (by decide)
   have hq6:=(hcc.block q (blk_lt hq3) (λe=>by rcases e with e|e;exact hqO e;omega)).trans hq3
   refine⟨by unfold maxLen;omega,λj hj=>⟨q,0,rfl,blk_lt hq6,λf hf=>?_⟩⟩
   obtain rfl:f=0:=by omega
   rw [cell_blk hq6]
   simp [u64G,u64V,List.getD_eq_getElem?_getD,hj,List.getElem?_append_left]
 ·obtain⟨q,rest,hq1,hq2,hq3⟩:=hwq h0
  have hqge:w2.heap.size<=q:=hA.rest.ge.2.2.2.2.2.2.1 q hq1
  rw [hq2] at e;cases e
  omega
end
end Go.Proofs.YtfkokppncipgnaaGreat
