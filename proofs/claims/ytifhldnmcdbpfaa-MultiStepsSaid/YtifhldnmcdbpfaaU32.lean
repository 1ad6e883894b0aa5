/- Layer 16: the snapshot of many writers as the loom's object: its machines answer, and start. -/
import Derived.Test.YtifhldnmcdbpfaaU31
import Derived.Test.YtifhldnmcdbpfaaU17
set_option maxRecDepth 100000
set_option linter.unusedVariables false
set_option linter.unusedSimpArgs false
set_option linter.unnecessarySimpa false
namespace Go.Proofs.Ytifhldnmcdbpfaa
open Go.RowKit
theorem jI {ops:Array Oper} {S:World->Prop} {op:Oper} {a:Act} (hw:Region.wanted op (yielded ops a.tmps)=true) (T:TypeId) (m x:Operand) (ho:op.op=Op.lookup T m x false) (M key v:Value) (hm:a.eval m=M) (hx:a.eval x=key)
  (hS:∀ w,S w->(Instr.lookup T M key false).run Try.prog w=.ok v w):YieldsIf Try.prog ops S op v a:=
 .inl ⟨hw,λw h=>by
  have:=hS w h
  simp [execOp,ho,hm,hx,this,Result.andThen]⟩
theorem BL (a : Addr) : rR 219 (.pointer (some a)) "Step" 170 (.pointer (some a)) := ⟨fun _ _ => by kernel_rfl, fun _ _ => by kernel_rfl, fun _ _ => by kernel_rfl⟩
theorem xU (a : Addr) : rR 219 (.pointer (some a)) "Answer" 169 (.pointer (some a)) := ⟨fun _ _ => by kernel_rfl, fun _ _ => by kernel_rfl, fun _ _ => by kernel_rfl⟩
theorem lQ (a : Addr) : rR 224 (.pointer (some a)) "Step" 177 (.pointer (some a)) := ⟨fun _ _ => by kernel_rfl, fun _ _ => by kernel_rfl, fun _ _ => by kernel_rfl⟩
theorem xI (a : Addr) : rR 224 (.pointer (some a)) "Answer" 176 (.pointer (some a)) := ⟨fun _ _ => by kernel_rfl, fun _ _ => by kernel_rfl, fun _ _ => by kernel_rfl⟩
theorem yS (a : Addr) : rR 66 (.pointer (some a)) "Start" 127 (.pointer (some a)) := ⟨fun _ _ => by kernel_rfl, fun _ _ => by kernel_rfl, fun _ _ => by kernel_rfl⟩
theorem LW (v:Value) (u:World):(Instr.typeAssert (.iface 219 v) 123 158 true).run Try.prog u=.ok (.tuple #[.nilIface,.bool false]) u:=run_typeAssert_lacksB Try.underlying158 (by kernel_rfl) (by kernel_rfl) v _ u
theorem KH (v:Value) (u:World):(Instr.typeAssert (.iface 224 v) 123 158 true).run Try.prog u=.ok (.tuple #[.nilIface,.bool false]) u:=run_typeAssert_lacksB Try.underlying158 (by kernel_rfl) (by kernel_rfl) v _ u
theorem AB (b:Nat) (w:World):Calls Try.prog 176 #[.pointer (some ⟨b,0,none⟩)] w λe w'=>e=.returned (.tuple #[gF 0 0 (.slice none 0 0),.slice none 0 0])/\Below w.heap.size w w':=by
 unfold gF
 go_enter Try.func176,Try.ntmps176
 go_wp2
 exact bodyPost_ret (v:=.tuple #[.agg #[.int .i64 0,.int .u64 0,.slice none 0 0],.slice none 0 0]) (by simp [results,Try.results176 ,go_sem]) rfl ⟨rfl,Gr.new _ _⟩
theorem BH (b bs ln lc kn kc:Nat) (la ka:Option Addr) (w:World) (h:w.heap[b]?=some (.cells (BD bs (.slice ka kn kc)) 223 (0,0))) (hl:w.cell? ⟨bs,7,none⟩=some (.slice la ln lc)) (hsl:bs<w.heap.size) :
  Calls Try.prog 169 #[.pointer (some ⟨b,0,none⟩)] w λe w'=>e=.returned (.tuple #[gF 0 0 (.slice la ln lc),.slice ka kn kc])/\Below w.heap.size w w':=by
 have hlt:=aH h
 have d0:w.cell? ⟨b,0,none⟩=some (.pointer (some ⟨bs,0,none⟩)):=by rw [aA h];rfl
 have d1:w.cell? ⟨b,1,none⟩=some (.slice ka kn kc):=by rw [aA h];rfl
 have c0:=(World.cell?_alloc_lt w (.cells #[.int .i64 0,.int .u64 0,.slice none 0 0] 42) ⟨b,0,none⟩ hlt).trans d0
 have c1:=(World.cell?_alloc_lt w (.cells #[.int .i64 0,.int .u64 0,.slice none 0 0] 42) ⟨b,1,none⟩ hlt).trans d1
 have c2:=(World.cell?_alloc_lt w (.cells #[.int .i64 0,.int .u64 0,.slice none 0 0] 42) ⟨bs,7,none⟩ hsl).trans hl
 have hne:w.heap.size≠b:=by omega
 have hne2:b≠w.heap.size:=by omega
 have OI:bs≠w.heap.size:=by omega
 have NY:w.heap.size≠bs:=by omega
 clear h
 unfold gF
 go_enter Try.func169,Try.ntmps169
 go_wp2_with fail
 go_region_held3 (λu=>u.cell? ⟨b,0,none⟩=some (.pointer (some ⟨bs,0,none⟩))/\u.cell? ⟨b,1,none⟩=some (.slice ka kn kc)/\u.cell? ⟨bs,7,none⟩=some (.slice la ln lc)) (first|exact⟨c0,c1,c2⟩|exact⟨(World.cell?_alloc_lt _ _ _ hlt).trans d0,(World.cell?_alloc_lt _ _ _ hlt).trans d1,(World.cell?_alloc_lt _ _ _ hsl).trans hl⟩|go_keep) (fail)
 all_goals
  go_wp2
  exact bodyPost_ret (v:=.tuple #[.agg #[.int .i64 0,.int .u64 0,.slice la ln lc],.slice ka kn kc]) (by simp [results,Try.results169 ,go_sem]) rfl ⟨rfl,by first|exact(Gr.new _ _).drew|exact Gr.new _ _⟩
def LJ (bN:Nat):MuV:=⟨bN,.slice none 0 0,.slice none 0 0,.slice none 0 0,.slice none 0 0⟩
def MF (bP:Nat) (w w':World) (e:Ending):Prop:=
 e=.returned (.pointer (some ⟨w.heap.size+1,0,none⟩))/\Below w.heap.size w w'/\w'.heap.size=w.heap.size+2/\MuAt w' (w.heap.size+1) bP (LJ w.heap.size) xV
theorem JZ:ntM (List.replicate 16 0)=λ_=>none:=by
 funext k
 unfold ntM
 rw [show(List.replicate 16 0).getD k.toNat 0=0 from iV,if_neg (λh=>h.2 rfl)]
theorem QY {w:World} {bs bP bN:Nat} (h:w.heap[bs]?=some (.cells (muL bP xV (LJ bN)).toArray 229 (0,0))) (hm:MapOf (.int .u64 0) w bN 0 (λ_=>none)):MuAt w bs bP (LJ bN) xV:=by
 refine⟨h,gN.nil _,gN.nil _,gN.nil _,⟨none,0,rfl,Nat.le_refl _,aW.nil _ _ _ _⟩,?_,rfl,λ_=>rfl,λ_=>⟨rfl,rfl⟩,λg e=>(by cases e),λg e=>(by cases e),λg e=>(by cases e)⟩
 show MapOf _ w bN (ntN (List.replicate 16 0)) (ntM (List.replicate 16 0))
 rw [JZ];exact hm
theorem qE (bP:Nat) (w:World):Calls Try.prog 129 #[.pointer (some ⟨bP,0,none⟩)] w λe w'=>MF bP w w' e:=by
 obtain⟨w1,hw1⟩:∃ w1,w1=w.alloc (.map #[] 0):=⟨_,rfl⟩
 obtain⟨w2,hw2⟩:∃ w2,w2=w1.alloc (.cells (muL bP xV (LJ w.heap.size)).toArray 229):=⟨_,rfl⟩
 have hs1:w1.heap.size=w.heap.size+1:=by rw [hw1];simp
 have hg2:Below w1.heap.size w1 w2:=by rw [hw2];exact Gr.new _ _
 have hM:MapOf (.int .u64 0) w2 w.heap.size 0 (λ_=>none):=by
  have h1:MapOf (.int .u64 0) w1 w.heap.size 0 (λ_=>none):=by rw [hw1];exact MapOf.made _ _
  exact h1.block (hg2.block _ h1.lt)
 have F:=Lib.hid (show MF bP w w2 (.returned (.pointer (some ⟨w.heap.size+1,0,none⟩))) from by
  refine⟨rfl,Gr.trans (by rw [hw1];exact Gr.new _ _) hg2,by rw [hw2];simp;omega,QY ?_ hM⟩
  rw [hw2,<-hs1];exact heap_alloc_new _ _)
 have Hw2:=Lib.hid (show w2=(w.alloc (.map #[] 0)).alloc (.cells #[.pointer (some ⟨bP,0,none⟩),.slice none 0 0,.slice none 0 0,.int .i64 0,.map (some w.heap.size),.slice none 0 0,.bool false,.slice none 0 0,.int .i64 0] 229) from by rw [hw2,hw1];rfl)
 have hmm:=@run_makeMap Try.prog
 clear hw1 hw2 hs1 hg2 hM
 go_enter Try.func129,Try.ntmps129
 go_wp2
 rw [<-Hw2.out]
 go_ret
 exact F.out
theorem EG:∀(o:List Nat) (p:Nat),p<o.length->(o.set p (o.getD p 0+1)).sum=o.sum+1
 | [],p,h=>absurd h (Nat.not_lt_zero p)
 | x::o,0,_=>by
  show(x+1)+o.sum=x+o.sum+1
  omega
 | x::o,p+1,h=>by
  have:=EG o p (Nat.lt_of_succ_lt_succ h)
  show x+(o.set p (o.getD p 0+1)).sum=x+o.sum+1
  omega
def RJ (w:World) (Mut:Nat->Prop) (bs bP:Nat) (v:MuV) (s:MuD):Prop:=w.heap[bs]?=some (.cells (muL bP s v).toArray 229 (0,0))/\jQ w Mut v.lv s.list
def WO (bP:Nat) (w:World) (Mut B:Nat->Prop) (T:TypeId) (x:Value) (_:Nat):MuS->Prop
 | .rd s key=>T=219/\∃ b bs v kv,x=.pointer (some ⟨b,0,none⟩)/\w.heap[b]?=some (.cells (BD bs kv) 223 (0,0))/\B b/\B bs/\bs≠b/\Lst w Mut kv key/\
  ((aS s=false/\MuAt w bs bP v s/\∀ j,MuB bs v j->B j/\j≠b)∨(aS s=true/\RJ w Mut bs bP v s))
 | .up s p a r i vv wr=>T=224/\∃ b bs v wv wl,x=.pointer (some ⟨b,0,none⟩)/\w.heap[b]?=some (.cells (lM bs p a r vv wv i) 226 (0,0))/\B b/\(∀ j,MuB bs v j->B j/\j≠b)/\(∀ j,wv.ownBlock=some j->B j/\j≠b/\¬ MuB bs v j)/\MuAt w bs bP v s/\gN w wv wl/\vv<18446744073709551616/\(∀ y∈s.list,y<18446744073709551616)/\
  (if wr=true then wl=vv::s.list else wl=[]/\wv=.slice none 0 0/\i=0)
def DR (m q:Nat) (o:List Nat) (wd:WD):MuS->Prop
 | .rd s _=>nA m q wd s/\(aS (bJ m q wd s)=true->0<=(bJ m q wd s).moment/\(bJ m q wd s).moment<1000000000)
 | .up s _ _ _ _ _ false=>nA m q wd s/\(aS (bJ m q wd s)=true->(bJ m q wd s).list.length=m)
 | .up s p a r i _ true=>s.list.length=m/\r<1000000/\i<=m+1/\p<16/\o.getD p 0<1000000/\a<=1000/\o.sum<=100000
def sS (n m q bP bU:Nat):Real (aR n m q) where
 T:=66
 x:=.pointer (some ⟨bP,0,none⟩)
 OB:=λb=>b=bP∨b=bU
 ORep:=λw Mut o=>w.heap[bP]?=some (.cells (jM n m q bU) 89 (0,0))/\List.length (α:=Nat) o=16/\MapOf (.int .i64 0) w bU (List.sum (α:=Nat) o) (usM o)/\bU≠bP/\Mut bP/\Mut bU
 MRep:=WO bP
 inv:=λ_ _=>True
 dN:=1
 live:=λo wd _ s=>DR m q o wd s
 done:=λs=>match s with
  | .rd s _=>aS s=true
  | .up _ _ _ _ _ _ _=>True
set_option maxHeartbeats 8000000 in
theorem FN (n m q bP bU:Nat) (dF:m<=16) (dQ:q<=64) (w:World) (Mut:Nat->Prop) (I:eO) (N:Nat) (wd:WD) (o:List Nat) (p:Nat) (c:aF) (hw:aT w Mut I N wd) (ho:w.heap[bP]?=some (.cells (jM n m q bU) 89 (0,0))/\o.length=16/\MapOf (.int .i64 0) w bU o.sum (usM o)/\bU≠bP/\Mut bP/\Mut bU) (hp:p<16) (hc:iJ c) :
  Calls Try.prog 127 #[.pointer (some ⟨bP,0,none⟩),.pointer (some ⟨I.bW,0,none⟩),.int .i64 (p:Int),fG c] w (vR (sS n m q bP bU) w Mut I wd o p c):=by
 obtain⟨th,ob,kd,ca,cb,cc⟩:=c
 have hca:ca<18446744073709551616:=hc.a
 have hcb:cb<18446744073709551616:=hc.b
 have hlow:=hw.low
 obtain⟨hP,WB,hM,_,hm1,_⟩:=ho
 unfold fG
 simp only
 have hPl:=hlow _ hm1
 have nm:∀(d k:Nat),w.heap.size<=k->k≠d->¬ (fZ Mut noB (λb=>b=d) k):=λd k hk hkd=>by
  rintro(⟨hx,_⟩|hx)
  ·have:=hlow _ hx;omega
  ·exact hkd hx
 have Nm:=Lib.hid nm
 obtain⟨wa,hwa,hga,hsz,ha1⟩:=IM w th ob kd (ca:Int) (cb:Int) (cc:Int)
 have f2:wa.cell? ⟨w.heap.size,2,none⟩=some (.int .i64 kd):=by rw [aA ha1];rfl
 have f3:wa.cell? ⟨w.heap.size,3,none⟩=some (.int .u64 (ca:Int)):=by rw [aA ha1];rfl
 have f4:wa.cell? ⟨w.heap.size,4,none⟩=some (.int .u64 (cb:Int)):=by rw [aA ha1];rfl
 have hPa:=(hga.block bP hPl).trans hP
 have hMa:=hM.block (hga.block bU hM.lt)
 obtain⟨u,hu⟩:∃ u,u=o.getD p 0:=⟨_,rfl⟩
 have STh:=Lib.hid (show(aR n m q).start o wd p ⟨th,ob,kd,ca,cb,cc⟩=(if kd=1 then Mc.run (MuS.rd xV []) else if kd≠0 then .refuse 9 else if m<=ca then .refuse 10 else if q<=o.getD p 0 then .refuse 6 else .run (.up xV p ca (bI m q p (o.getD p 0)) 0 cb false)) from rfl)
 rw [<-hu] at STh
 have Eu:=Lib.hid (show((usM o (p:Int)).getD (.int .i64 0))=.int .i64 (u:Int) from by rw [LC,hu])
 have hpf:(Lit.int .i64 (p:Int)).wf=true:=by simp [Lit.wf,IntKind.min,IntKind.max,IntKind.signed,IntKind.bits];omega
 have wm:IntKind.u64.wrap (m:Int)=(m:Int):=by rw [IntKind.wrap_u64];omega
 have u2:wa.cell? ⟨bP,2,none⟩=some (.int .i64 (m:Int)):=by rw [aA hPa];rfl
 have u3:wa.cell? ⟨bP,3,none⟩=some (.int .i64 (q:Int)):=by rw [aA hPa];rfl
 have u4:wa.cell? ⟨bP,4,none⟩=some (.map (some bU)):=by rw [aA hPa];rfl
 have Hwa:=Lib.hid hwa;have Hga:=Lib.hid hga;have Hsz:=Lib.hid hsz;have HPa:=Lib.hid hPa;have Hca:=Lib.hid hca;have Hp:=Lib.hid hp;have HMa:=Lib.hid hMa;have Hpf:=Lib.hid hpf;have Hcb:=Lib.hid hcb
 clear hw hc hlow hP hm1 hca WB hu nm hwa hga hsz ha1 hPa hp hM hMa hpf hcb
 by_cases h1:kd=1
 ·have Hst:=Lib.hid (show(aR n m q).start o wd p ⟨th,ob,kd,ca,cb,cc⟩=.run (.rd xV []) by rw [STh.out,if_pos h1];rfl)
  subst h1
  go_enter Try.func127,Try.ntmps127
  go_upto_region 1 with fail
  rw [<-Hwa.out]
  go_wp2_with fail
  refine(qE bP _).mono ?_
  rintro e w3 ⟨rfl,hb3,hz3,hk3⟩
  have Hb3:=Lib.hid hb3;have Hz3:=Lib.hid hz3;have Hk3:=Lib.hid hk3
  clear hb3 hz3 hk3
  go_wp2
  go_ret
  have hblk:=heap_alloc_new w3 (.cells (BD (wa.heap.size+1) (.slice none 0 0)) 223 (0,0))
  have hk4:=Hk3.out.grown (Gr.new w3 (.cells (BD (wa.heap.size+1) (.slice none 0 0)) 223 (0,0)))
  have h5:=Hsz.out;have h6:=Hz3.out
  refine⟨_,_,λb=>b=wa.heap.size∨b=wa.heap.size+1∨b=w3.heap.size,rfl,Gr.trans (Gr.trans Hga.out Hb3.out) (Gr.new _ _),λb hb=>?_,?_⟩
  ·simp only [World.size_alloc]
   omega
  rw [Hst.out]
  refine⟨rfl,w3.heap.size,wa.heap.size+1,_,.slice none 0 0,rfl,hblk,.inr (.inr rfl),.inr (.inl rfl),by omega,Lst.nil _ _,.inl ⟨rfl,hk4,λj hj=>?_⟩⟩
  rcases hj with e|e|e|e|e|e
  ·exact⟨.inr (.inl e),by omega⟩
  ·have e:j=wa.heap.size:=e
   exact⟨.inl e,by omega⟩
  ·cases e
  ·cases e
  ·cases e
  ·cases e
 by_cases h0:kd=0
 ·by_cases hr:m<=ca
  ·have Hst:=Lib.hid (show(aR n m q).start o wd p ⟨th,ob,kd,ca,cb,cc⟩=.refuse 10 by rw [STh.out,if_neg h1,if_neg (by simpa using h0),if_pos hr];rfl)
   have Rf:=Lib.hid (lJ 10)
   have l1:(m:Int)<=(ca:Int):=by omega
   subst h0
   clear h1 hr STh
   go_enter Try.func127,Try.ntmps127
   go_upto_region 1 with fail
   rw [<-Hwa.out]
   go_wp2_with fail
   go_quiet (fail)
   have Hq:=Lib.hid (below_drewN (Gr.refl wa) nq)
   go_wp2_with (go_at_call 96;refine(Rf.out _).mono ?_;rintro e w' ⟨rfl,hrf,hbr⟩)
   go_ret
   have hsw:=Hsz.out
   refine⟨_,_,λb=>b=wa.heap.size+1,rfl,Gr.trans Hga.out (Gr.trans Hq.out hbr),λb hb=>by subst hb;exact⟨by omega,aH hrf.1⟩,?_⟩
   rw [Hst.out]
   exact⟨rfl,wa.heap.size+1,wa.heap.size,rfl,hrf,rfl,Nm.out _ _ (by omega) (by omega)⟩
  have l0:¬ (m:Int)<=(ca:Int):=by omega
  by_cases hf:q<=u
  ·have Hst:=Lib.hid (show(aR n m q).start o wd p ⟨th,ob,kd,ca,cb,cc⟩=.refuse 6 by rw [STh.out,if_neg h1,if_neg (by simpa using h0),if_neg hr,if_pos hf];rfl)
   have Rf:=Lib.hid (lJ 6)
   have l1:(q:Int)<=(u:Int):=by omega
   subst h0
   clear h1 hf STh hr
   go_enter Try.func127,Try.ntmps127
   go_upto_region 1 with fail
   rw [<-Hwa.out]
   go_wp2_with fail
   go_quiet (fail)
   have hgq:=below_drewN (Gr.refl wa) nq
   obtain⟨wb,hwb⟩:∃ wb,wb=wa.drewN nq:=⟨_,rfl⟩
   have hbz:wb.heap.size=wa.heap.size:=by rw [hwb];rfl
   rw [<-hwb] at hgq ⊢
   have v3:=(hgq.cell (p:=⟨bP,3,none⟩) (aH HPa.out)).trans u3
   have v4:=(hgq.cell (p:=⟨bP,4,none⟩) (aH HPa.out)).trans u4
   have HMb:=Lib.hid (HMa.out.block (hgq.block bU HMa.out.lt))
   have Hgq:=Lib.hid hgq;have Hbz:=Lib.hid hbz
   clear hwb hgq hbz u2 u3 u4 f2 f3 f4
   go_upto_region 7 with fail
   have LKu:∀ w:World,(w.cell? ⟨bP,3,none⟩=some (.int .i64 (q:Int))/\w.cell? ⟨bP,4,none⟩=some (.map (some bU))/\MapOf (.int .i64 0) w bU o.sum (usM o))->(Instr.lookup 87 (.map (some bU)) (.int .i64 (p:Int)) false).run Try.prog w=.ok (.int .i64 (u:Int)) w:=λw h=>by
    rw [h.2.2.look Try.underlying87 (pK w) Hpf.out,Eu.out]
   refine wp_region_held_drew (S:=(λx=>x.cell? ⟨bP,3,none⟩=some (.int .i64 (q:Int))/\x.cell? ⟨bP,4,none⟩=some (.map (some bU))/\MapOf (.int .i64 0) x bU o.sum (usM o))) (by kernel_rfl) ?_ (λhHeld=>?_)
   ·(try dsimp only)
    (first|exact⟨v3,v4,HMb.out⟩|exact⟨v3,v4,HMb.out.drew⟩)
   refine wpAnyH_take (i:=0) (v:=?Au) rfl (by kernel_rfl) (by kernel_rfl) (by kernel_rfl) (λ_ _ _ h=>h) (Or.inl ⟨by rfl,?ZY⟩) (by assumption) ?Ar
   (case ZY=>(intro w hSw;(try dsimp only at hSw);go_simp;try with_reducible rfl))
   (try simp only [Act.put,zs])
   refine wpAnyH_take (i:=1) (v:=?Aw) rfl (by kernel_rfl) (by kernel_rfl) (by kernel_rfl) (λ_ _ _ h=>h) (Or.inl ⟨by rfl,?YU⟩) (by assumption) ?Bg
   (case YU=>(intro w hSw;(try dsimp only at hSw);go_simp;try with_reducible rfl))
   (try simp only [Act.put,zs])
   refine wpAnyH_take (i:=2) (v:=?Aq) rfl (by kernel_rfl) (by kernel_rfl) (by kernel_rfl) (λ_ _ _ h=>h) (Or.inl ⟨by rfl,?YX⟩) (by assumption) ?Be
   (case YX=>(intro w hSw;(try dsimp only at hSw);go_simp;try with_reducible rfl))
   (try simp only [Act.put,zs])
   refine wpAnyH_take (i:=3) (v:=?Av) rfl (by kernel_rfl) (by kernel_rfl) (by kernel_rfl) (λ_ _ _ h=>h) (Or.inl ⟨by rfl,?ZB⟩) (by assumption) ?Ah
   (case ZB=>(intro w hSw;(try dsimp only at hSw);go_simp;try with_reducible rfl))
   (try simp only [Act.put,zs])
   refine wpAnyH_take (i:=4) (v:=?Af) rfl (by kernel_rfl) (by kernel_rfl) (by kernel_rfl) (λ_ _ _ h=>h) (Or.inl ⟨by rfl,?ZH⟩) (by assumption) ?Bp
   (case ZH=>(intro w hSw;(try dsimp only at hSw);go_simp;try with_reducible rfl))
   (try simp only [Act.put,zs])
   refine wpAnyH_take (i:=5) rfl (by kernel_rfl) (by kernel_rfl) (by kernel_rfl) (λ_ _ _ h=>h) (jI (by rfl) _ _ _ (by rfl) _ _ _ (by rfl) (by rfl) LKu) (by assumption) ?Ai
   (try simp only [Act.put,zs])
   refine wpAnyH_take (i:=6) (v:=?Az) rfl (by kernel_rfl) (by kernel_rfl) (by kernel_rfl) (λ_ _ _ h=>h) (Or.inl ⟨by rfl,?ZT⟩) (by assumption) ?Bd
   (case ZT=>(intro w hSw;(try dsimp only at hSw);go_simp;try with_reducible rfl))
   (try simp only [Act.put,zs])
   refine wpAnyH_take (i:=7) (v:=?Ae) rfl (by kernel_rfl) (by kernel_rfl) (by kernel_rfl) (λ_ _ _ h=>h) (Or.inl ⟨by rfl,?ZO⟩) (by assumption) ?Bj
   (case ZO=>(intro w hSw;(try dsimp only at hSw);go_simp;try with_reducible rfl))
   (try simp only [Act.put,zs])
   refine wpAnyH_take (i:=8) (v:=?Ap) rfl (by kernel_rfl) (by kernel_rfl) (by kernel_rfl) (λ_ _ _ h=>h) (Or.inl ⟨by rfl,?YT⟩) (by assumption) ?Bq
   (case YT=>(intro w hSw;(try dsimp only at hSw);go_simp;try with_reducible rfl))
   (try simp only [Act.put,zs])
   refine wpAnyH_take (i:=9) (v:=?ZZ) rfl (by kernel_rfl) (by kernel_rfl) (by kernel_rfl) (λ_ _ _ h=>h) (Or.inl ⟨by rfl,?WT⟩) (by assumption) ?ZJ
   (case WT=>(intro w hSw;(try dsimp only at hSw);go_simp;try with_reducible rfl))
   (try simp only [Act.put,zs])
   refine wpAnyH_take (i:=10) (v:=?ZA) rfl (by kernel_rfl) (by kernel_rfl) (by kernel_rfl) (λ_ _ _ h=>h) (Or.inl ⟨by rfl,?VY⟩) (by assumption) ?Aa
   (case VY=>(intro w hSw;(try dsimp only at hSw);go_simp;try with_reducible rfl))
   (try simp only [Act.put,zs])
   refine wpAnyH_take (i:=11) (v:=?ZQ) rfl (by kernel_rfl) (by kernel_rfl) (by kernel_rfl) (λ_ _ _ h=>h) (Or.inl ⟨by rfl,?VN⟩) (by assumption) ?YW
   (case VN=>(intro w hSw;(try dsimp only at hSw);go_simp;try with_reducible rfl))
   (try simp only [Act.put,zs])
   refine wpAnyH_done (by kernel_rfl) ?_ _
   have Hq:=Lib.hid (show Below wa.heap.size wa wb.drew from Gr.trans Hgq.out (Gr.refl wb).drew)
   clear v3 v4 LKu
   go_wp2_with (go_at_call 96;refine(Rf.out _).mono ?_;rintro e w' ⟨rfl,hrf,hbr⟩)
   go_ret
   have hsw:=Hsz.out
   have hbw:=Hbz.out
   refine⟨_,_,λb=>b=wb.heap.size+1,rfl,Gr.trans Hga.out (Gr.trans Hq.out hbr),λb hb=>by subst hb;exact⟨by omega,aH hrf.1⟩,?_⟩
   rw [Hst.out]
   exact⟨rfl,wb.heap.size+1,wb.heap.size,rfl,hrf,rfl,Nm.out _ _ (by omega) (by omega)⟩
  ·have Hst:=Lib.hid (show(aR n m q).start o wd p ⟨th,ob,kd,ca,cb,cc⟩=.run (.up xV p ca (bI m q p u) 0 cb false) by rw [STh.out,if_neg h1,if_neg (by simpa using h0),if_neg hr,if_neg hf];rfl)
   have l1:¬ (q:Int)<=(u:Int):=by omega
   have Rc:=Lib.hid (λ(x:World) (h:Below wa.heap.size wa x)=>BU bP n m q bU p u dF dQ Hp.out (by omega) x ((h.block bP (aH HPa.out)).trans HPa.out))
   have wca:IntKind.i64.wrap (ca:Int)=(ca:Int):=by rw [IntKind.wrap_i64];omega
   obtain⟨rr,hrr⟩:∃ rr,rr=bI m q p u:=⟨_,rfl⟩
   rw [<-hrr] at Rc Hst
   have hwl:w.heap.size<wa.heap.size:=by have:=Hsz.out;omega
   have Hwl:=Lib.hid hwl
   subst h0
   clear h1 hf STh hr hrr hwl
   go_enter Try.func127,Try.ntmps127
   go_upto_region 1 with fail
   rw [<-Hwa.out]
   go_wp2_with fail
   go_quiet (fail)
   have hgq:=below_drewN (Gr.refl wa) nq
   obtain⟨wb,hwb⟩:∃ wb,wb=wa.drewN nq:=⟨_,rfl⟩
   have hbz:wb.heap.size=wa.heap.size:=by rw [hwb];rfl
   rw [<-hwb] at hgq ⊢
   have v3:=(hgq.cell (p:=⟨bP,3,none⟩) (aH HPa.out)).trans u3
   have v4:=(hgq.cell (p:=⟨bP,4,none⟩) (aH HPa.out)).trans u4
   have v5:=(hgq.cell (p:=⟨w.heap.size,3,none⟩) Hwl.out).trans f3
   have v6:=(hgq.cell (p:=⟨w.heap.size,4,none⟩) Hwl.out).trans f4
   have HMb:=Lib.hid (HMa.out.block (hgq.block bU HMa.out.lt))
   have Hgq:=Lib.hid hgq;have Hbz:=Lib.hid hbz
   clear hwb hgq hbz u2 u3 u4 f2 f3 f4
   go_upto_region 7 with fail
   have LKu:∀ w:World,(w.cell? ⟨bP,3,none⟩=some (.int .i64 (q:Int))/\w.cell? ⟨bP,4,none⟩=some (.map (some bU))/\MapOf (.int .i64 0) w bU o.sum (usM o))->(Instr.lookup 87 (.map (some bU)) (.int .i64 (p:Int)) false).run Try.prog w=.ok (.int .i64 (u:Int)) w:=λw h=>by
    rw [h.2.2.look Try.underlying87 (pK w) Hpf.out,Eu.out]
   refine wp_region_held_drew (S:=(λx=>x.cell? ⟨bP,3,none⟩=some (.int .i64 (q:Int))/\x.cell? ⟨bP,4,none⟩=some (.map (some bU))/\MapOf (.int .i64 0) x bU o.sum (usM o))) (by kernel_rfl) ?_ (λhHeld=>?_)
   ·(try dsimp only)
    (first|exact⟨v3,v4,HMb.out⟩|exact⟨v3,v4,HMb.out.drew⟩)
   refine wpAnyH_take (i:=0) (v:=?tv1a) rfl (by kernel_rfl) (by kernel_rfl) (by kernel_rfl) (λ_ _ _ h=>h) (Or.inl ⟨by rfl,?th1a⟩) (by assumption) ?tr1a
   (case th1a=>(intro w hSw;(try dsimp only at hSw);go_simp;try with_reducible rfl))
   (try simp only [Act.put,zs])
   refine wpAnyH_take (i:=1) (v:=?tv2a) rfl (by kernel_rfl) (by kernel_rfl) (by kernel_rfl) (λ_ _ _ h=>h) (Or.inl ⟨by rfl,?th2a⟩) (by assumption) ?tr2a
   (case th2a=>(intro w hSw;(try dsimp only at hSw);go_simp;try with_reducible rfl))
   (try simp only [Act.put,zs])
   refine wpAnyH_take (i:=2) (v:=?tv3a) rfl (by kernel_rfl) (by kernel_rfl) (by kernel_rfl) (λ_ _ _ h=>h) (Or.inl ⟨by rfl,?th3a⟩) (by assumption) ?tr3a
   (case th3a=>(intro w hSw;(try dsimp only at hSw);go_simp;try with_reducible rfl))
   (try simp only [Act.put,zs])
   refine wpAnyH_take (i:=3) (v:=?tv4a) rfl (by kernel_rfl) (by kernel_rfl) (by kernel_rfl) (λ_ _ _ h=>h) (Or.inl ⟨by rfl,?th4a⟩) (by assumption) ?tr4a
   (case th4a=>(intro w hSw;(try dsimp only at hSw);go_simp;try with_reducible rfl))
   (try simp only [Act.put,zs])
   refine wpAnyH_take (i:=4) (v:=?tv5a) rfl (by kernel_rfl) (by kernel_rfl) (by kernel_rfl) (λ_ _ _ h=>h) (Or.inl ⟨by rfl,?th5a⟩) (by assumption) ?tr5a
   (case th5a=>(intro w hSw;(try dsimp only at hSw);go_simp;try with_reducible rfl))
   (try simp only [Act.put,zs])
   refine wpAnyH_take (i:=5) rfl (by kernel_rfl) (by kernel_rfl) (by kernel_rfl) (λ_ _ _ h=>h) (jI (by rfl) _ _ _ (by rfl) _ _ _ (by rfl) (by rfl) LKu) (by assumption) ?tr6a
   (try simp only [Act.put,zs])
   refine wpAnyH_take (i:=6) (v:=?tv7a) rfl (by kernel_rfl) (by kernel_rfl) (by kernel_rfl) (λ_ _ _ h=>h) (Or.inl ⟨by rfl,?th7a⟩) (by assumption) ?tr7a
   (case th7a=>(intro w hSw;(try dsimp only at hSw);go_simp;try with_reducible rfl))
   (try simp only [Act.put,zs])
   refine wpAnyH_take (i:=7) (v:=?tv8a) rfl (by kernel_rfl) (by kernel_rfl) (by kernel_rfl) (λ_ _ _ h=>h) (Or.inl ⟨by rfl,?th8a⟩) (by assumption) ?tr8a
   (case th8a=>(intro w hSw;(try dsimp only at hSw);go_simp;try with_reducible rfl))
   (try simp only [Act.put,zs])
   refine wpAnyH_take (i:=8) (v:=?tv9a) rfl (by kernel_rfl) (by kernel_rfl) (by kernel_rfl) (λ_ _ _ h=>h) (Or.inl ⟨by rfl,?th9a⟩) (by assumption) ?tr9a
   (case th9a=>(intro w hSw;(try dsimp only at hSw);go_simp;try with_reducible rfl))
   (try simp only [Act.put,zs])
   refine wpAnyH_take (i:=9) (v:=?tv10a) rfl (by kernel_rfl) (by kernel_rfl) (by kernel_rfl) (λ_ _ _ h=>h) (Or.inl ⟨by rfl,?th10a⟩) (by assumption) ?tr10a
   (case th10a=>(intro w hSw;(try dsimp only at hSw);go_simp;try with_reducible rfl))
   (try simp only [Act.put,zs])
   refine wpAnyH_take (i:=10) (v:=?tv11a) rfl (by kernel_rfl) (by kernel_rfl) (by kernel_rfl) (λ_ _ _ h=>h) (Or.inl ⟨by rfl,?th11a⟩) (by assumption) ?tr11a
   (case th11a=>(intro w hSw;(try dsimp only at hSw);go_simp;try with_reducible rfl))
   (try simp only [Act.put,zs])
   refine wpAnyH_take (i:=11) (v:=?tv12a) rfl (by kernel_rfl) (by kernel_rfl) (by kernel_rfl) (λ_ _ _ h=>h) (Or.inl ⟨by rfl,?th12a⟩) (by assumption) ?tr12a
   (case th12a=>(intro w hSw;(try dsimp only at hSw);go_simp;try with_reducible rfl))
   (try simp only [Act.put,zs])
   refine wpAnyH_done (by kernel_rfl) ?_ _
   obtain⟨wc,hwc⟩:∃ wc,wc=wb.drew:=⟨_,rfl⟩
   have hgc:Below wa.heap.size wa wc:=by rw [hwc];exact Gr.trans Hgq.out (Gr.refl wb).drew
   have hcz:wc.heap.size=wa.heap.size:=by rw [hwc];exact Hbz.out
   have c4:wc.cell? ⟨bP,4,none⟩=some (.map (some bU)):=by rw [hwc];exact v4
   have c5:wc.cell? ⟨w.heap.size,3,none⟩=some (.int .u64 (ca:Int)):=by rw [hwc];exact v5
   have c6:wc.cell? ⟨w.heap.size,4,none⟩=some (.int .u64 (cb:Int)):=by rw [hwc];exact v6
   have HMc:=Lib.hid (show MapOf (.int .i64 0) wc bU o.sum (usM o) from by rw [hwc];exact HMb.out.drew)
   rw [<-hwc]
   have Hgc:=Lib.hid hgc;have Hcz:=Lib.hid hcz
   clear hwc hgc hcz v3 v4 v5 v6 LKu
   go_upto_region 9 with fail
   clear l1
   have LKu:∀ x:World,(x.cell? ⟨bP,4,none⟩=some (.map (some bU))/\x.cell? ⟨w.heap.size,3,none⟩=some (.int .u64 (ca:Int))/\x.cell? ⟨w.heap.size,4,none⟩=some (.int .u64 (cb:Int))/\MapOf (.int .i64 0) x bU o.sum (usM o))->(Instr.lookup 87 (.map (some bU)) (.int .i64 (p:Int)) false).run Try.prog x=.ok (.int .i64 (u:Int)) x:=λx h=>by
    rw [h.2.2.2.look Try.underlying87 (pK x) Hpf.out,Eu.out]
   refine wp_region_held_drew (S:=(λx=>x.cell? ⟨bP,4,none⟩=some (.map (some bU))/\x.cell? ⟨w.heap.size,3,none⟩=some (.int .u64 (ca:Int))/\x.cell? ⟨w.heap.size,4,none⟩=some (.int .u64 (cb:Int))/\MapOf (.int .i64 0) x bU o.sum (usM o))) (by kernel_rfl) ?_ (λhHeld=>?_)
   ·(try dsimp only)
    (first|exact⟨c4,c5,c6,HMc.out.drew⟩|exact⟨z4,z5,z6,z7⟩|exact⟨t4,t5,t6,t7⟩|exact⟨((Gr.new w4 _).cell (World.block_lt_of_cell? _ _ t4)).trans t4,((Gr.new w4 _).cell (World.block_lt_of_cell? _ _ t5)).trans t5,((Gr.new w4 _).cell (World.block_lt_of_cell? _ _ t6)).trans t6,t7.block ((Gr.new w4 _).block bU t7.lt)⟩)
   refine wpAnyH_take (i:=0) (v:=?tv1b) rfl (by kernel_rfl) (by kernel_rfl) (by kernel_rfl) (λ_ _ _ h=>h) (Or.inl ⟨by rfl,?th1b⟩) (by assumption) ?tr1b
   (case th1b=>(intro w hSw;(try dsimp only at hSw);go_simp;try with_reducible rfl))
   (try simp only [Act.put,zs])
   refine wpAnyH_take (i:=2) (v:=?tv2b) rfl (by kernel_rfl) (by kernel_rfl) (by kernel_rfl) (λ_ _ _ h=>h) (Or.inl ⟨by rfl,?th2b⟩) (by assumption) ?tr2b
   (case th2b=>(intro w hSw;(try dsimp only at hSw);go_simp;try with_reducible rfl))
   (try simp only [Act.put,zs])
   refine wpAnyH_take (i:=3) (v:=?tv3b) rfl (by kernel_rfl) (by kernel_rfl) (by kernel_rfl) (λ_ _ _ h=>h) (Or.inl ⟨by rfl,?th3b⟩) (by assumption) ?tr3b
   (case th3b=>(intro w hSw;(try dsimp only at hSw);go_simp;try with_reducible rfl))
   (try simp only [Act.put,zs])
   refine wpAnyH_take (i:=4) (v:=?tv4b) rfl (by kernel_rfl) (by kernel_rfl) (by kernel_rfl) (λ_ _ _ h=>h) (Or.inl ⟨by rfl,?th4b⟩) (by assumption) ?tr4b
   (case th4b=>(intro w hSw;(try dsimp only at hSw);go_simp;try with_reducible rfl))
   (try simp only [Act.put,zs])
   refine wpAnyH_take (i:=5) (v:=?tv5b) rfl (by kernel_rfl) (by kernel_rfl) (by kernel_rfl) (λ_ _ _ h=>h) (Or.inl ⟨by rfl,?th5b⟩) (by assumption) ?tr5b
   (case th5b=>(intro w hSw;(try dsimp only at hSw);go_simp;try with_reducible rfl))
   (try simp only [Act.put,zs])
   refine wpAnyH_take (i:=6) (v:=?tv6b) rfl (by kernel_rfl) (by kernel_rfl) (by kernel_rfl) (λ_ _ _ h=>h) (Or.inl ⟨by rfl,?th6b⟩) (by assumption) ?tr6b
   (case th6b=>(intro w hSw;(try dsimp only at hSw);go_simp;try with_reducible rfl))
   (try simp only [Act.put,zs])
   refine wpAnyH_take (i:=7) (v:=?tv7b) rfl (by kernel_rfl) (by kernel_rfl) (by kernel_rfl) (λ_ _ _ h=>h) (Or.inl ⟨by rfl,?th7b⟩) (by assumption) ?tr7b
   (case th7b=>(intro w hSw;(try dsimp only at hSw);go_simp;try with_reducible rfl))
   (try simp only [Act.put,zs])
   refine wpAnyH_take (i:=8) (v:=?tv8b) rfl (by kernel_rfl) (by kernel_rfl) (by kernel_rfl) (λ_ _ _ h=>h) (Or.inl ⟨by rfl,?th8b⟩) (by assumption) ?tr8b
   (case th8b=>(intro w hSw;(try dsimp only at hSw);go_simp;try with_reducible rfl))
   (try simp only [Act.put,zs])
   refine wpAnyH_take (i:=9) (v:=?tv9b) rfl (by kernel_rfl) (by kernel_rfl) (by kernel_rfl) (λ_ _ _ h=>h) (Or.inl ⟨by rfl,?th9b⟩) (by assumption) ?tr9b
   (case th9b=>(intro w hSw;(try dsimp only at hSw);go_simp;try with_reducible rfl))
   (try simp only [Act.put,zs])
   refine wpAnyH_take (i:=10) (v:=?tv10b) rfl (by kernel_rfl) (by kernel_rfl) (by kernel_rfl) (λ_ _ _ h=>h) (Or.inl ⟨by rfl,?th10b⟩) (by assumption) ?tr10b
   (case th10b=>(intro w hSw;(try dsimp only at hSw);go_simp;try with_reducible rfl))
   (try simp only [Act.put,zs])
   refine wpAnyH_take (i:=11) (v:=?tv11b) rfl (by kernel_rfl) (by kernel_rfl) (by kernel_rfl) (λ_ _ _ h=>h) (Or.inl ⟨by rfl,?th11b⟩) (by assumption) ?tr11b
   (case th11b=>(intro w hSw;(try dsimp only at hSw);go_simp;try with_reducible rfl))
   (try simp only [Act.put,zs])
   refine wpAnyH_take (i:=12) (v:=?tv12b) rfl (by kernel_rfl) (by kernel_rfl) (by kernel_rfl) (λ_ _ _ h=>h) (Or.inl ⟨by rfl,?th12b⟩) (by assumption) ?tr12b
   (case th12b=>(intro w hSw;(try dsimp only at hSw);go_simp;try with_reducible rfl))
   (try simp only [Act.put,zs])
   refine wpAnyH_take (i:=13) rfl (by kernel_rfl) (by kernel_rfl) (by kernel_rfl) (λ_ _ _ h=>h) (jI (by rfl) _ _ _ (by rfl) _ _ _ (by rfl) (by rfl) LKu) (by assumption) ?tr13b
   (try simp only [Act.put,zs])
   refine wpAnyH_take (i:=15) (v:=?tv14b) rfl (by kernel_rfl) (by kernel_rfl) (by kernel_rfl) (λ_ _ _ h=>h) (Or.inl ⟨by rfl,?th14b⟩) (by assumption) ?tr14b
   (case th14b=>(intro w hSw;(try dsimp only at hSw);go_simp;try with_reducible rfl))
   (try simp only [Act.put,zs])
   refine wpAnyH_take (i:=16) (v:=?tv15b) rfl (by kernel_rfl) (by kernel_rfl) (by kernel_rfl) (λ_ _ _ h=>h) (Or.inl ⟨by rfl,?th15b⟩) (by assumption) ?tr15b
   (case th15b=>(intro w hSw;(try dsimp only at hSw);go_simp;try with_reducible rfl))
   (try simp only [Act.put,zs])
   refine wpAnyH_ready (rs:=[1]) (by kernel_rfl) (by simp) ?_
   refine AllReadyH.cons rfl (λK hK=>?_) AllReadyH.nil
   go_simp
   (first|(go_at_call 129;refine(qE bP _).mono ?_;rintro e w3 ⟨rfl,hb3,hz3,hk3⟩;have JE:Below wa.heap.size wa w3:=Gr.trans Hgc.out (Gr.trans (Gr.refl wc).drew hb3);have hb3'':Below wc.heap.size wc w3:=Gr.trans (Gr.refl wc).drew hb3;have z4:=(hb3''.cell (World.block_lt_of_cell? _ _ c4)).trans c4;have z5:=(hb3''.cell (World.block_lt_of_cell? _ _ c5)).trans c5;have z6:=(hb3''.cell (World.block_lt_of_cell? _ _ c6)).trans c6;have z7:=HMc.out.block (hb3''.block bU HMc.out.lt))|(go_at_call 130;refine(Rc.out _ ?_).mono ?_;(exact JE);rintro e w4 ⟨rfl,hb4⟩;have t4:=(hb4.cell (World.block_lt_of_cell? _ _ z4)).trans z4;have t5:=(hb4.cell (World.block_lt_of_cell? _ _ z5)).trans z5;have t6:=(hb4.cell (World.block_lt_of_cell? _ _ z6)).trans z6;have t7:=z7.block (hb4.block bU z7.lt)))
   refine hK.out _ _ ?_ (λhHeld=>?_)
   ·(try dsimp only)
    (first|exact⟨c4,c5,c6,HMc.out.drew⟩|exact⟨z4,z5,z6,z7⟩|exact⟨t4,t5,t6,t7⟩|exact⟨((Gr.new w4 _).cell (World.block_lt_of_cell? _ _ t4)).trans t4,((Gr.new w4 _).cell (World.block_lt_of_cell? _ _ t5)).trans t5,((Gr.new w4 _).cell (World.block_lt_of_cell? _ _ t6)).trans t6,t7.block ((Gr.new w4 _).block bU t7.lt)⟩)
   clear hK K
   (try simp only [Act.put,zs])
   refine wpAnyH_ready (rs:=[14]) (by kernel_rfl) (by simp) ?_
   refine AllReadyH.cons rfl (λK hK=>?_) AllReadyH.nil
   go_simp
   (first|(go_at_call 129;refine(qE bP _).mono ?_;rintro e w3 ⟨rfl,hb3,hz3,hk3⟩;have JE:Below wa.heap.size wa w3:=Gr.trans Hgc.out (Gr.trans (Gr.refl wc).drew hb3);have hb3'':Below wc.heap.size wc w3:=Gr.trans (Gr.refl wc).drew hb3;have z4:=(hb3''.cell (World.block_lt_of_cell? _ _ c4)).trans c4;have z5:=(hb3''.cell (World.block_lt_of_cell? _ _ c5)).trans c5;have z6:=(hb3''.cell (World.block_lt_of_cell? _ _ c6)).trans c6;have z7:=HMc.out.block (hb3''.block bU HMc.out.lt))|(go_at_call 130;refine(Rc.out _ ?_).mono ?_;(exact JE);rintro e w4 ⟨rfl,hb4⟩;have t4:=(hb4.cell (World.block_lt_of_cell? _ _ z4)).trans z4;have t5:=(hb4.cell (World.block_lt_of_cell? _ _ z5)).trans z5;have t6:=(hb4.cell (World.block_lt_of_cell? _ _ z6)).trans z6;have t7:=z7.block (hb4.block bU z7.lt)))
   refine hK.out _ _ ?_ (λhHeld=>?_)
   ·(try dsimp only)
    (first|exact⟨c4,c5,c6,HMc.out.drew⟩|exact⟨z4,z5,z6,z7⟩|exact⟨t4,t5,t6,t7⟩|exact⟨((Gr.new w4 _).cell (World.block_lt_of_cell? _ _ t4)).trans t4,((Gr.new w4 _).cell (World.block_lt_of_cell? _ _ t5)).trans t5,((Gr.new w4 _).cell (World.block_lt_of_cell? _ _ t6)).trans t6,t7.block ((Gr.new w4 _).block bU t7.lt)⟩)
   clear hK K
   (try simp only [Act.put,zs])
   refine wpAnyH_take (i:=17) (v:=?tv16b) rfl (by kernel_rfl) (by kernel_rfl) (by kernel_rfl) (λ_ _ _ h=>h) (Or.inl ⟨by rfl,?th16b⟩) (by assumption) ?tr16b
   (case th16b=>(intro w hSw;(try dsimp only at hSw);go_simp;try with_reducible rfl))
   (try simp only [Act.put,zs])
   refine wpAnyH_ready (rs:=[18]) (by kernel_rfl) (by simp) ?_
   refine AllReadyH.cons rfl (λK hK=>?_) AllReadyH.nil
   go_simp
   refine hK.out _ _ ?_ (λhHeld=>?_)
   ·(try dsimp only)
    (first|exact⟨c4,c5,c6,HMc.out.drew⟩|exact⟨z4,z5,z6,z7⟩|exact⟨t4,t5,t6,t7⟩|exact⟨((Gr.new w4 _).cell (World.block_lt_of_cell? _ _ t4)).trans t4,((Gr.new w4 _).cell (World.block_lt_of_cell? _ _ t5)).trans t5,((Gr.new w4 _).cell (World.block_lt_of_cell? _ _ t6)).trans t6,t7.block ((Gr.new w4 _).block bU t7.lt)⟩)
   clear hK K
   (try simp only [Act.put,zs])
   refine wpAnyH_take (i:=19) (v:=?tv17b) rfl (by kernel_rfl) (by kernel_rfl) (by kernel_rfl) (λ_ _ _ h=>h) (Or.inl ⟨by rfl,?th17b⟩) (by assumption) ?tr17b
   (case th17b=>(intro w hSw;(try dsimp only at hSw);go_simp;try with_reducible rfl))
   (try simp only [Act.put,zs])
   refine wpAnyH_take (i:=20) (v:=?tv18b) rfl (by kernel_rfl) (by kernel_rfl) (by kernel_rfl) (λ_ _ _ h=>h) (Or.inl ⟨by rfl,?th18b⟩) (by assumption) ?tr18b
   (case th18b=>(intro w hSw;(try dsimp only at hSw);go_simp;try with_reducible rfl))
   (try simp only [Act.put,zs])
   refine wpAnyH_done (by kernel_rfl) ?_ _
   have Hk3:=Lib.hid (show MuAt w3 (wc.heap.size+1) bP (LJ wc.heap.size) xV from hk3)
   have Hz3:=Lib.hid (show w3.heap.size=wc.heap.size+2 from hz3);have Hb3:=Lib.hid JE;have Hb4:=Lib.hid hb4
   clear hk3 hz3 hb3 JE hb3'' hb4 z4 z5 z6 z7 t4 t5 t6 t7 c4 c5 c6 LKu
   go_wp2
   go_ret
   have hblk:=heap_alloc_new w4 (.cells (lM (wc.heap.size+1) p ca rr cb (.slice none 0 0) 0) 226 (0,0))
   have hk5:=(Hk3.out.grown Hb4.out).grown (Gr.new w4 (.cells (lM (wc.heap.size+1) p ca rr cb (.slice none 0 0) 0) 226 (0,0)))
   have h5:=Hsz.out;have h6:=Hz3.out;have h7:=Hcz.out;have h8:=Hb4.out.size
   refine⟨_,_,λb=>b=wc.heap.size∨b=wc.heap.size+1∨b=w4.heap.size,rfl,Gr.trans (Gr.trans (Gr.trans Hga.out Hb3.out) Hb4.out) (Gr.new _ _),λb hb=>?_,?_⟩
   ·simp only [World.size_alloc]
    omega
   rw [Hst.out]
   refine⟨rfl,w4.heap.size,wc.heap.size+1,_,.slice none 0 0,[],rfl,hblk,.inr (.inr rfl),λj hj=>?_,(λj e=>by cases e),hk5,gN.nil _,Hcb.out,(λy hy=>by cases hy),rfl,rfl,rfl⟩
   rcases hj with e|e|e|e|e|e
   ·exact⟨.inr (.inl e),by omega⟩
   ·have e:j=wc.heap.size:=e
    exact⟨.inl e,by omega⟩
   ·cases e
   ·cases e
   ·cases e
   ·cases e
 ·have Hst:=Lib.hid (show(aR n m q).start o wd p ⟨th,ob,kd,ca,cb,cc⟩=.refuse 9 by rw [STh.out,if_neg h1,if_pos h0];rfl)
  have Rf:=Lib.hid (lJ 9)
  have q1:(kd != 0)=true:=by simp [h0]
  have q0:(kd == 1)=false:=by simp [h1]
  go_enter Try.func127,Try.ntmps127
  go_upto_region 1 with fail
  rw [<-Hwa.out]
  go_wp2_with (go_at_call 96;refine(Rf.out _).mono ?_;rintro e w' ⟨rfl,hrf,hbr⟩)
  go_ret
  have hsw:=Hsz.out
  refine⟨_,_,λb=>b=wa.heap.size+1,rfl,Gr.trans Hga.out hbr,λb hb=>by subst hb;exact⟨by omega,aH hrf.1⟩,?_⟩
  rw [Hst.out]
  exact⟨rfl,wa.heap.size+1,wa.heap.size,rfl,hrf,rfl,Nm.out _ _ (by omega) (by omega)⟩
end Go.Proofs.Ytifhldnmcdbpfaa
