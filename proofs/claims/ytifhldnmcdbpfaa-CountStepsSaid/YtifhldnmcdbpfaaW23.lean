/- Layer 10: a way's key. -/
import Derived.Test.YtifhldnmcdbpfaaW22
import Derived.BigQuiet
set_option maxRecDepth 100000
set_option linter.unusedVariables false
set_option linter.unusedSimpArgs false
set_option linter.unnecessarySimpa false
namespace Go.Proofs.Ytifhldnmcdbpfaa
section
open Go.RowKit
theorem jX {ops:Array Oper} {rest:List Oper} {o:Oper} {a:Act} {w:World} {Q:Exit->Act->World->Prop} (hgd:o.guard=none) (s x:Operand) (ho:o.op=.call { callee:=.builtin .append,args:=#[s,x],argTypes:=#[24,24] })
  (z:Nat) (k:Int) (hs:a.eval s=.slice (some ⟨z,0,none⟩) 1 1) (hz:w.heap[z]?=some (.cells #[.int .i64 k] 3 (0,0))) (g N c:Nat) (l:List Int) (hx:a.eval x=.slice (some ⟨g,0,none⟩) N c) (hN:N=l.length) (h0:0<N) (hl:N<=1000000) (hsl:bS w (some ⟨g,0,none⟩) N 1 (gQ l))
  (h:∀(g' vc M:Nat) (w':World),M=N+1->bS w' (some ⟨g',0,none⟩) M 1 (gQ (k::l))->z<=g'->Below z w w'->wpList Try.prog ops Q rest (a.put o.dst (.slice (some ⟨g',0,none⟩) M vc)) w') :
  wpList Try.prog ops Q (o::rest) a w:=by
 obtain⟨j0,hj0,hy0,hy1,hy2⟩:=info_parts uL
 refine wpList_append_lies w hgd s x 24 ho z 3 j0 (.int .i64 0) 1 8 Try.underlying24 hj0 hy0 hy1 hy2 rfl (by decide) _ 1 [.int .i64 k] hs ⟨rfl,.inr ⟨z,1,#[.int .i64 k],rfl,Nat.le_refl _,hz,by simp [maxLen]⟩⟩ ⟨g,0,none⟩ N c (l.map (Value.int .i64)) hx (by simp [hN]) ?_ ?_ h0 ?_ ?_ (Nat.le_of_lt (aC hz)) w.heap.size rfl ?_
 ·intro j u hu
  have hj:j<l.length:=by
   rcases Nat.lt_or_ge j l.length with h9|h9
   ·exact h9
   ·rw [List.getElem?_eq_none (by simpa using h9)] at hu;cases hu
  obtain⟨b9,VN,e9,_,zC⟩:=hsl.2 j (by omega)
  cases e9
  have:=zC 0 (by omega)
  rw [Nat.mul_one,Nat.add_zero] at this
  rw [oZ]
  rw [Nat.zero_add] at this
  rw [this]
  simpa [gQ,List.getD_eq_getElem?_getD,hj] using hu
 ·simp [Value.oneCell']
 ·unfold maxLen;omega
 ·omega
 ·intro g' cap w' hown hgr hat _
  have hc:Chg (λb=>b=z) w w':=(Chg.refl _ w).grown hgr (λk hk=>.inl (by cases hk;rfl))
  have e1:1+N=(k::l).length:=by simp [hN];omega
  have e2:[Value.int .i64 k]++l.map (Value.int .i64)=(k::l).map (Value.int .i64):=by simp
  rw [e2] at hown
  have hrs:=IQ hown (by unfold maxLen;omega) (g:=gQ (k::l)) (λj hj=>by
   have hj':j<(k::l).length:=by omega
   simp only [gQ,List.getElem?_map,List.getD_eq_getElem?_getD,List.getElem?_eq_getElem hj'];rfl)
  have:=h g' cap (1+N) w' (by omega) hrs.1 (hrs.2 g' 0 rfl) (hc.below (λk e=>Nat.le_of_eq e.symm) (Nat.le_of_lt (aC hz)))
  exact this
theorem EF (ts:List (Nat×Bool)) (j:Nat) (hj:j<ts.length):ts.drop j=ts.getD j (0,false)::ts.drop (j+1):=by
 rw [List.getD_eq_getElem?_getD,List.getElem?_eq_getElem hj]
 exact List.drop_eq_getElem_cons hj
variable {w w':World} {Mut:Nat->Prop} {I:dG} {N:Nat} {wd:WD} {bm:Nat} {rest:List Value} {T:TypeId} {b m p:Nat} {y:dQ} {tv:Value}
set_option maxHeartbeats 8000000 in
theorem CS (hw:aM w Mut I N wd) (h:bV w bm rest T b m p y tv) (hp:p<16) (hok:fB m y) (hm:m<=12) (kQ:b+2^m<=1000000) (hT:iT wd) (UA:y.last<=1000000) :
  Calls Try.prog 165 #[.pointer (some ⟨bm,0,none⟩),.pointer (some ⟨I.bW,0,none⟩)] w λe w'=>(∃ va vn vc,e=.returned (.slice va vn vc)/\Lst w' Mut (.slice va vn vc) (mV b p wd y))/\Below w.heap.size w w':=by
 have hb:=h.blk
 have hlen:y.turns.length<=12:=by have:=hok.len;omega
 have hla:0<=nX wd p y/\nX wd p y<=1000000:=by
  unfold nX
  split
  ·have:=hT.2 p;omega
  ·omega
 have INV:=KD w Mut I N wd p hw hp
 obtain⟨iv,hiv⟩:∃ iv,iv=wd.inv.getD p 0:=⟨_,rfl⟩
 rw [<-hiv] at INV
 obtain⟨S,hS⟩:∃ S,S=jW wd.traces b:=⟨_,rfl⟩
 have hSs:∀ k,0<=S k/\S k<=1000000:=λk=>by rw [hS];exact hT.set b k
 have SET:=Lib.hid (λ(u:World) (hu:Below w.heap.size w u) (k:Nat) (hk:1<=k) (hk2:k<2^m)=>(by have h9:=BG (lC hw hu) (h.grown hu) k hk (by omega);rw [<-hS] at h9;exact h9:Calls Try.prog 167 #[.pointer (some ⟨bm,0,none⟩),.pointer (some ⟨I.bW,0,none⟩),.int .i64 (k:Int)] u λe w'=>e=.returned (.int .i64 (S k))/\Below u.heap.size u w'))
 obtain⟨la,hlae⟩:∃ la,la=nX wd p y:=⟨_,rfl⟩
 obtain⟨ly,hly⟩:∃ ly,ly=y.last:=⟨_,rfl⟩
 have MZ:la=if ly=0 then (iv:Int) else (ly:Int):=by rw [hlae,hly,hiv];rfl
 rw [<-hlae] at hla
 have hkey:mV b p wd y=iN S y.turns la:=by rw [hS,hlae];rfl
 rw [hkey]
 obtain⟨ts,hts⟩:∃ ts,ts=y.turns:=⟨_,rfl⟩
 obtain⟨ta,tc,rfl,_⟩:=h.turn_at (by omega)
 have TU:=Lib.hid (λ(u:World) (hu:Below w.heap.size w u) (i:Nat) (hi:i<ts.length)=>(by
  obtain⟨XA,XL,e9,h9⟩:=(h.grown hu).turn_at (by omega)
  cases e9
  rw [hts] at hi ⊢
  exact h9 i hi:∃ g o,ta=some ⟨g,o,none⟩/\g<u.heap.size/\u.cell? ⟨g,o+i*2,none⟩=some (.int .i64 ((ts.getD i (0,false)).1:Int))/\u.cell? ⟨g,o+i*2+1,none⟩=some (.bool (ts.getD i (0,false)).2)))
 obtain⟨n,hn⟩:∃ n,n=ts.length:=⟨_,rfl⟩
 rw [<-hts] at hlen hb hkey ⊢
 rw [<-hn] at hlen TU
 have x6:w.cell? ⟨bm,6,none⟩=some (.int .i64 (ly:Int)):=by rw [aA hb,hly];rfl
 have x2:w.cell? ⟨bm,2,none⟩=some (.int .i64 (p:Int)):=by rw [aA hb];rfl
 have x5:w.cell? ⟨bm,5,none⟩=some (.slice ta n tc):=by rw [aA hb,hn,hts];rfl
 have lbm:=aC hb
 have TK:=Lib.hid (λi (hi:i<n)=>(by
  have hi':i<y.turns.length:=by rw [<-hts,<-hn];exact hi
  have h9:=hok.tk (y.turns.getD i (0,false)) (by rw [List.getD_eq_getElem?_getD,List.getElem?_eq_getElem hi'];exact List.getElem_mem _)
  rw [hts];exact h9:1<=(ts.getD i (0,false)).1/\(ts.getD i (0,false)).1<2^m))
 have Low:=Lib.hid hw.low
 have Hn:=Lib.hid hn;have HSs:=Lib.hid hSs;have HI:=Lib.hid INV;have Hla2:=Lib.hid MZ
 have KL:=Lib.hid (λj=>vC S la (ts.drop j))
 have KS:=Lib.hid (λj=>qE hSs hla (ts.drop j))
 have hlaN:la<=1000000:=hla.2
 have WJ:0<=la:=hla.1
 have wla:IntKind.i64.wrap (2*la)=2*la:=by rw [IntKind.wrap_i64];omega
 have hnI:(n:Int)<=12:=by omega
 have wn:IntKind.i64.wrap ((n:Int) - 1)=(n:Int) - 1:=by rw [IntKind.wrap_i64];omega
 clear hb h hok hm kQ hT UA INV hiv hS hSs hlae hly MZ hkey hts hn hla hw
 have E1:=Lib.hid (show((if ly=0 then (iv:Int) else (ly:Int))=la) from Hla2.out.symm)
 go_enter Try.func165,Try.ntmps165
 rcases Nat.eq_zero_or_pos ly with h0|h0
 case' inl=>
  subst h0
  have E2:=Lib.hid (show(iv:Int)=la from by have h9:=E1.out;rwa [if_pos rfl] at h9)
  go_upto_region 4 with(go_at_call 136;refine HI.out.mono ?_;rintro e w1 ⟨rfl,rfl⟩)
 case' inr=>
  have l0:((ly:Int) == 0)=false:=by simp;omega
  have l1:¬ (ly:Int)=0:=by omega
  have E2:=Lib.hid (show(ly:Int)=la from by have h9:=E1.out;rwa [if_neg (by omega)] at h9)
  go_upto_region 4 with fail
 all_goals
  rw [E2.out]
  clear E1 E2 x6 HI Hla2
  go_wp2
  go_loopw [6,7] (λkv i wr=>∃(j g c NN:Nat),j<=n/\i=.int .i64 ((j:Int) - 1)/\kv=.slice (some ⟨g,0,none⟩) NN c/\NN=(iN S (ts.drop j) la).length/\bS wr (some ⟨g,0,none⟩) NN 1 (gQ (iN S (ts.drop j) la))/\w.heap.size<=g/\Below w.heap.size w wr) (λ_ i _=>(intOf i+1).toNat)
  case atStart=>
   refine⟨n,w.heap.size,1,1,Nat.le_refl _,rfl,rfl,?_,?_,Nat.le_refl _,Gr.new _ _⟩
   ·rw [List.drop_eq_nil_of_le (by rw [<-Hn.out];exact Nat.le_refl _)];rfl
   ·rw [List.drop_eq_nil_of_le (by rw [<-Hn.out];exact Nat.le_refl _)]
    refine⟨by unfold maxLen;omega,λj hj=>⟨w.heap.size,0,rfl,by simp,λf hf=>?_⟩⟩
    obtain rfl:f=0:=by omega
    obtain rfl:j=0:=by omega
    rw [dZ];rfl
  case round=>
   obtain⟨j,g,c,NN,hj,rfl,rfl,hNN,hsl,hg,hbw⟩:=hrel
   have hkl:=KL.out j
   have hks:=KS.out j
   cases j with
   | zero=>
    rw [List.drop_zero] at hsl hkl hNN
    have Fin:=Lib.hid (show Lst wr Mut (.slice (some ⟨g,0,none⟩) NN c) (iN S ts la) from⟨some ⟨g,0,none⟩,c,by rw [hNN],λe=>by rw [e] at hkl;simp at hkl,by rw [<-hNN];exact hsl,λb off e hM=>by cases e;have:=Low.out _ hM;omega⟩)
    have HB:=Lib.hid hbw
    clear hsl hkl hks hNN hbw
    go_wp2
    go_ret
    exact⟨⟨_,_,_,rfl,Fin.out⟩,HB.out⟩
   | succ j=>
    have hjn:j<n:=by omega
    obtain⟨RJ,RO⟩:=TK.out j hjn
    obtain⟨q,o,rfl,hq,c0,c1⟩:=TU.out wr hbw j hjn
    have hdr:=EF ts j (by rw [<-Hn.out];exact hjn)
    obtain⟨kr,hkr⟩:∃ kr,kr=ts.getD j (0,false):=⟨_,rfl⟩
    rw [<-hkr] at c0 c1 RJ RO hdr
    obtain⟨k,rt⟩:=kr
    simp only at c0 c1 RJ RO
    have x5r:=(hbw.cell (p:=⟨bm,5,none⟩) lbm).trans x5
    obtain⟨K,hK⟩:∃ K,K=iN S (ts.drop (j+1)) la:=⟨_,rfl⟩
    have hkey:iN S (ts.drop j) la=eZ S (k,rt) K:=by rw [hdr,hK];rfl
    rw [<-hK] at hsl hNN hkl hks
    obtain⟨sv,hsv⟩:∃ sv,sv=S k:=⟨_,rfl⟩
    have hsb:=HSs.out k
    have ST:=SET.out
    have PH:eZ S (k,rt) K=if sv=0 then K else if rt=false/\2*sv<K.headD 0 then (2*sv - 1)::K else if rt=true/\K.headD 0<=2*sv then (2*sv)::K else K:=by rw [hsv];rfl
    obtain⟨x0,hx0⟩:∃ x0,x0=K.headD 0:=⟨_,rfl⟩
    have hx0b:-1<=x0/\x0<=2000000/\wr.cell? ⟨g,0,none⟩=some (.int .i64 x0):=by
     cases hKe:K with
     | nil=>rw [hKe] at hkl;exact absurd hkl.1 (by decide)
     | cons a l=>
      rw [hKe] at hx0 hks hsl hNN
      obtain rfl:x0=a:=hx0
      obtain⟨b9,o9,e9,_,zC⟩:=hsl.2 0 (by rw [hNN];exact Nat.succ_pos _)
      cases e9
      exact⟨(hks x0 (List.mem_cons_self ..)).1,(hks x0 (List.mem_cons_self ..)).2,zC 0 (by omega)⟩
    obtain⟨hxa,hxb,cg⟩:=hx0b
    have lg:g<wr.heap.size:=World.block_lt_of_cell? _ _ cg
    rw [<-hx0] at PH
    rw [<-hsv] at hsb
    have hpos:0<NN:=by omega
    have hle:NN<=1000000:=by
     have h9:=hkl.2
     rw [List.length_drop] at h9
     have h8:=Hn.out
     omega
    have SV:=Lib.hid (show Calls Try.prog 167 #[.pointer (some ⟨bm,0,none⟩),.pointer (some ⟨I.bW,0,none⟩),.int .i64 (k:Int)] (wr.alloc (.cells #[.int .i64 (k:Int),.bool rt] 250)) (λe w'=>e=.returned (.int .i64 sv)/\Below (wr.alloc (.cells #[.int .i64 (k:Int),.bool rt] 250)).heap.size (wr.alloc (.cells #[.int .i64 (k:Int),.bool rt] 250)) w') from by rw [hsv];exact ST _ (Gr.trans hbw (Gr.new _ _)) k RJ RO)
    have l1:(j:Int)<(n:Int):=by omega
    have l2:(0:Int)<=(j:Int):=by omega
    have l3:¬ (j:Int)<0:=by omega
    have w2s:IntKind.i64.wrap (2*sv)=2*sv:=by rw [IntKind.wrap_i64];omega
    have w2s1:IntKind.i64.wrap (2*sv - 1)=2*sv - 1:=by rw [IntKind.wrap_i64];omega
    have wj:IntKind.i64.wrap ((j:Int) - 1)=(j:Int) - 1:=by rw [IntKind.wrap_i64];omega
    have ej:(((j+1:Nat):Int) - 1)=(j:Int):=by omega
    rw [ej]
    have HNN:=Lib.hid hNN;have Hst:=Lib.hid PH;have Hkey:=Lib.hid hkey;have Hbw:=Lib.hid hbw;have Hsl0:=Lib.hid hsl
    clear hdr hkr hK hkey hsv ST PH hx0 hkl hks hNN hsl hsb hbw RJ RO hq
    go_upto_region 10 with(go_at_call 167;refine SV.out.mono ?_;rintro e w5 ⟨rfl,hb5⟩)
    have hbr:Below wr.heap.size wr w5:=Gr.trans (Gr.new _ _) hb5
    have d0:w5.cell? ⟨wr.heap.size,0,none⟩=some (.int .i64 (k:Int)):=(hb5.cell (p:=⟨wr.heap.size,0,none⟩) (by simp)).trans (by rw [dZ];rfl)
    have d1:w5.cell? ⟨wr.heap.size,1,none⟩=some (.bool rt):=(hb5.cell (p:=⟨wr.heap.size,1,none⟩) (by simp)).trans (by rw [dZ];rfl)
    have dg:w5.cell? ⟨g,0,none⟩=some (.int .i64 x0):=(hbr.cell (p:=⟨g,0,none⟩) lg).trans cg
    have Hsl:=Lib.hid (Hsl0.out.grown hbr)
    have Hb5:=Lib.hid (Gr.trans Hbw.out hbr)
    have Un:=Lib.hid (λ(e:eZ S (k,rt) K=K)=>(⟨j,g,c,NN,by omega,rfl,rfl,by rw [Hkey.out,e];exact HNN.out,by rw [Hkey.out,e];exact Hsl.out,hg,Hb5.out⟩:∃(j2 g2 c2 N2:Nat),j2<=n/\Value.int .i64 ((j:Int) - 1)=.int .i64 ((j2:Int) - 1)/\Value.slice (some ⟨g,0,none⟩) NN c=.slice (some ⟨g2,0,none⟩) N2 c2/\N2=(iN S (ts.drop j2) la).length/\bS w5 (some ⟨g2,0,none⟩) N2 1 (gQ (iN S (ts.drop j2) la))/\w.heap.size<=g2/\Below w.heap.size w w5))
    have App:=Lib.hid (λ(g' M:Nat) (w6:World) (kk:Int) (c6:Nat) (hM:M=NN+1) (h6:bS w6 (some ⟨g',0,none⟩) M 1 (gQ (kk::K))) (KA:w5.heap.size<=g') (hb6:Below w5.heap.size w5 w6) (e:eZ S (k,rt) K=kk::K)=>(⟨j,g',c6,M,by omega,rfl,rfl,by rw [Hkey.out,e,hM,HNN.out];rfl,by rw [Hkey.out,e];exact h6,by have:=Hb5.out.size;omega,Gr.trans Hb5.out hb6⟩:∃(j2 g2 c2 N2:Nat),j2<=n/\Value.int .i64 ((j:Int) - 1)=.int .i64 ((j2:Int) - 1)/\Value.slice (some ⟨g',0,none⟩) M c6=.slice (some ⟨g2,0,none⟩) N2 c2/\N2=(iN S (ts.drop j2) la).length/\bS w6 (some ⟨g2,0,none⟩) N2 1 (gQ (iN S (ts.drop j2) la))/\w.heap.size<=g2/\Below w.heap.size w w6))
    clear hbr hb5 c0 c1 cg x5r
    have hstep:=Hst.out
    by_cases hs0:sv=0
    ·rw [if_pos hs0] at hstep
     have Un:=Lib.hid (Un.out hstep)
     subst hs0
     go_wp2
     go_roundw
     case rel=>exact Un.out
     case measure=>simp [intOf]<;>omega
    rw [if_neg hs0] at hstep
    have l4:(sv == 0)=false:=by simp [hs0]
    cases rt with
    | false=>
     by_cases hlt:2*sv<x0
     ·rw [if_pos ⟨rfl,hlt⟩] at hstep
      have hst:=hstep
      have Ap:=Lib.hid (λ(g' M:Nat) (w6:World) (hM:M=NN+1) (h6:bS w6 (some ⟨g',0,none⟩) M 1 (gQ ((2*sv - 1)::K))) (KA:w5.heap.size<=g') (hb6:Below w5.heap.size (w5.alloc (.cells #[.int .i64 (2*sv - 1)] 3)) w6) (c6:Nat)=>App.out g' M w6 (2*sv - 1) c6 hM h6 KA (Below.trans (Gr.new w5 _) hb6) hst)
      clear App
      go_wp2_with (at_builtin;refine jX rfl _ _ rfl w5.heap.size (2*sv - 1) rfl (heap_alloc_new _ _) g NN c K rfl HNN.out hpos hle (Hsl.out.grown (Gr.new w5 _)) ?_;intro g' vc M w6 hM JR KA hb6;have F6:=Lib.hid (Ap.out g' M w6 hM JR KA hb6 vc);clear hM JR KA hb6 Ap)
      go_roundw
      case rel=>exact F6.out
      case measure=>simp [intOf]<;>omega
     ·rw [if_neg (λh=>hlt h.2),if_neg (λh=>by cases h.1)] at hstep
      have Un:=Lib.hid (Un.out hstep)
      go_wp2
      go_roundw
      case rel=>exact Un.out
      case measure=>simp [intOf]<;>omega
    | true=>
     by_cases hlt:x0<=2*sv
     ·rw [if_neg (λh=>by cases h.1),if_pos ⟨rfl,hlt⟩] at hstep
      have hst:=hstep
      have Ap:=Lib.hid (λ(g' M:Nat) (w6:World) (hM:M=NN+1) (h6:bS w6 (some ⟨g',0,none⟩) M 1 (gQ (2*sv::K))) (KA:w5.heap.size<=g') (hb6:Below w5.heap.size (w5.alloc (.cells #[.int .i64 (2*sv)] 3)) w6) (c6:Nat)=>App.out g' M w6 (2*sv) c6 hM h6 KA (Below.trans (Gr.new w5 _) hb6) hst)
      clear App
      go_wp2_with (at_builtin;refine jX rfl _ _ rfl w5.heap.size (2*sv) rfl (heap_alloc_new _ _) g NN c K rfl HNN.out hpos hle (Hsl.out.grown (Gr.new w5 _)) ?_;intro g' vc M w6 hM JR KA hb6;have F6:=Lib.hid (Ap.out g' M w6 hM JR KA hb6 vc);clear hM JR KA hb6 Ap)
      go_roundw
      case rel=>exact F6.out
      case measure=>simp [intOf]<;>omega
     ·rw [if_neg (λh=>by cases h.1),if_neg (λh=>hlt h.2)] at hstep
      have Un:=Lib.hid (Un.out hstep)
      go_wp2
      go_roundw
      case rel=>exact Un.out
      case measure=>simp [intOf]<;>omega
end
section
open Go.RowKit
def bA (v:Nat) (up:Bool) (nx:Nat) (kv:Value):List Value:=[.int .u64 (v:Int),.bool up,.int .i64 ((nx:Int) - 1),kv]
variable {w w':World} {Mut:Nat->Prop} {I:dG} {N:Nat} {wd:WD} {bm:Nat} {T:TypeId} {b m p v nx:Nat} {up:Bool} {kv:Value} {y:dQ} {tv:Value}
def yP (bm:Nat) (u:World):Nat:=match u.cell? ⟨bm,9,none⟩ with
 | some v=>(intOf v+1).toNat
 | none=>0
set_option maxHeartbeats 4000000 in
theorem CG (n0:Nat) (h:bV w bm (bA v up n0 kv) T b m p y tv) (hn:n0<=y.turns.length) (hl:y.turns.length<=12) :
  Calls Try.prog 160 #[.pointer (some ⟨bm,0,none⟩)] w λe w'=>e=.returned (.tuple #[])/\Chg (λk=>k=bm) w w'/\w'.heap[bm]?=some (.cells (jM b m p y tv++bA v up (bN y.turns n0) kv).toArray T (0,0)):=by
 obtain⟨ta,tc,rfl,hat⟩:=h.turn_at (by omega)
 obtain⟨ts,hts⟩:∃ ts,ts=y.turns:=⟨_,rfl⟩
 have hb:=h.blk
 have na:=h.na
 have lb:=aC hb
 rw [<-hts] at hn hl hat hb na ⊢
 obtain⟨n,hnn⟩:∃ n,n=ts.length:=⟨_,rfl⟩
 rw [<-hnn] at hn hl hat hb na ⊢
 have TU:=Lib.hid (λ(u:World) (hu:Chg (λk=>k=bm) w u) (i:Nat) (hi:i<n)=>(by
  obtain⟨g,o,rfl,hg,_,c1⟩:=hat i hi
  exact⟨g,o,rfl,aY hu (λe=>na (by rw [<-e];rfl)) c1⟩:∃ g o,ta=some ⟨g,o,none⟩/\u.cell? ⟨g,o+i*2+1,none⟩=some (.bool (ts.getD i (0,false)).2)))
 have Hb:=Lib.hid hb
 have hni:(n:Int)<=12:=by omega
 have Hn:=Lib.hid hn
 clear h hb hts hat hn na
 go_enter Try.func160,Try.ntmps160
 go_wp2
 go_loopw [] (λwr=>∃ j:Nat,j<=n/\bN ts j=bN ts n0/\Chg (λk=>k=bm) w wr/\wr.heap[bm]?=some (.cells (jM b m p y (.slice ta n tc)++bA v up j kv).toArray T (0,0))) (λwr=>yP bm wr)
 case atStart=>exact⟨n0,Hn.out,rfl,Chg.refl _ _,Hb.out⟩
 case round=>
  obtain⟨j,hj,hsk,hc,hbk⟩:=hrel
  have c9:wr.cell? ⟨bm,9,none⟩=some (.int .i64 ((j:Int) - 1)):=by rw [aA hbk];rfl
  have c5:wr.cell? ⟨bm,5,none⟩=some (.slice ta n tc):=by rw [aA hbk];rfl
  cases j with
  | zero=>
   have e0:bN ts n0=0:=hsk.symm
   have Hc:=Lib.hid hc;have Hbk:=Lib.hid hbk
   have E0:=Lib.hid e0
   clear hsk hc hbk e0
   go_wp2_with fail
   go_quiet (fail)
   go_wp2
   go_end0
   exact⟨rfl,Hc.out.drewN nq,by rw [E0.out];exact Hbk.out⟩
  | succ j=>
   obtain⟨g,o,rfl,c1⟩:=TU.out wr hc j (by omega)
   obtain⟨rt,hrt⟩:∃ rt,rt=(ts.getD j (0,false)).2:=⟨_,rfl⟩
   rw [<-hrt] at c1
   have ej:(((j+1:Nat):Int) - 1)=(j:Int):=by omega
   rw [ej] at c9
   have l1:(0:Int)<=(j:Int):=by omega
   have l2:(j:Int)<(n:Int):=by omega
   have wj:IntKind.i64.wrap ((j:Int) - 1)=(j:Int) - 1:=by rw [IntKind.wrap_i64];omega
   have hst:bN ts (j+1)=if rt=true then j+1 else bN ts j:=by rw [hrt];rfl
   cases rt with
   | true=>
    rw [if_pos rfl] at hst
    have Hc:=Lib.hid hc;have Hbk:=Lib.hid hbk
    have e0:bN ts n0=j+1:=hsk.symm.trans hst
    have E0:=Lib.hid e0
    clear hsk hc hbk e0 hst hrt
    go_wp2_with fail
    go_quiet (fail)
    go_wp2
    go_end0
    exact⟨rfl,Hc.out.drewN nq,by rw [E0.out];exact Hbk.out⟩
   | false=>
    rw [if_neg Bool.false_ne_true] at hst
    have hbj:j<=n:=by omega
    have f9:=aB hbk 9
    have Hc:=Lib.hid hc;have Hbk:=Lib.hid hbk;have Hsk:=Lib.hid (hst.symm.trans hsk)
    clear hsk hc hbk hst hrt
    go_wp2_with fail
    go_quiet (fail)
    have b9:(wr.drewN nq).cell? ⟨bm,9,none⟩=some (.int .i64 (j:Int)):=c9
    have bf:(wr.drewN nq).frozen? ⟨bm,9,none⟩=false:=f9
    go_wp2
    have Fb:((wr.drewN nq).setCell ⟨bm,9,none⟩ (.int .i64 ((j:Int) - 1))).heap[bm]?=some (.cells (jM b m p y (.slice (some ⟨g,o,none⟩) n tc)++bA v up j kv).toArray T (0,0)):=by
     rw [aH (show(wr.drewN nq).heap[bm]?=_ from Hbk.out)];rfl
    go_roundw
    case rel=>exact⟨j,hbj,Hsk.out,(Hc.out.drewN nq).setCell (by exact .inl rfl) _,Fb⟩
    case measure=>
     have e1:yP bm ((wr.drewN nq).setCell ⟨bm,9,none⟩ (.int .i64 ((j:Int) - 1)))=j:=by unfold yP;rw [aA Fb];simp [jM,bA,intOf]
     have e2:yP bm wr=j+1:=by unfold yP;rw [c9];simp [intOf]
     omega
theorem JY (hl:y.turns.length<=12) (h:bV w bm (bA v up nx kv) T b m p y tv) :
  Calls Try.prog 159 #[.pointer (some ⟨bm,0,none⟩)] w λe w'=>e=.returned (.tuple #[])/\Chg (λk=>k=bm) w w'/\w'.heap[bm]?=some (.cells (jM b m p y tv++bA v true (bN y.turns y.turns.length) kv).toArray T (0,0)):=by
 obtain⟨ta,tc,rfl⟩:=iM h.row
 have hb:=h.blk
 have lb:=aC hb
 obtain⟨n,hnn⟩:∃ n,n=y.turns.length:=⟨_,rfl⟩
 have c8:w.cell? ⟨bm,8,none⟩=some (.bool up):=by rw [aA hb];rfl
 have c5:w.cell? ⟨bm,5,none⟩=some (.slice ta n tc):=by rw [aA hb,hnn];rfl
 have c9:w.cell? ⟨bm,9,none⟩=some (.int .i64 ((nx:Int) - 1)):=by rw [aA hb];rfl
 have f8:=aB hb 8;have f9:=aB hb 9
 obtain⟨w2,hw2⟩:∃ w2,w2=(w.setCell ⟨bm,8,none⟩ (.bool true)).setCell ⟨bm,9,none⟩ (.int .i64 ((n:Int) - 1)):=⟨_,rfl⟩
 have hc2:Chg (λk=>k=bm) w w2:=by rw [hw2];exact((Chg.refl (λk=>k=bm) w).setCell (by exact .inl rfl) _).setCell (by exact .inl rfl) _
 have hb2:w2.heap[bm]?=some (.cells (jM b m p y (.slice ta y.turns.length tc)++bA v true y.turns.length kv).toArray T (0,0)):=by rw [hw2,aH (aH hb _ _),hnn];rfl
 have h2:bV w2 bm (bA v true y.turns.length kv) T b m p y (.slice ta y.turns.length tc):=⟨hb2,iA h.row hc2 (λk hk e=>h.na (by rw [hk,e])),h.typ⟩
 have SK:=Lib.hid (CG y.turns.length h2 (Nat.le_refl _) hl)
 have hni:(n:Int)<=12:=by omega
 have wn:IntKind.i64.wrap ((n:Int) - 1)=(n:Int) - 1:=by rw [IntKind.wrap_i64];omega
 have Hc2:=Lib.hid hc2;have Hw2:=Lib.hid hw2
 clear h hb hnn hl hw2 hc2 hb2 h2
 go_enter Try.func159,Try.ntmps159
 go_upto_region 2 with fail
 rw [<-Hw2.out]
 go_wp2_with (go_at_call 160;refine(SK.out).mono ?_;rintro e w3 ⟨rfl,h1,h2⟩)
 go_end0
 exact⟨rfl,Hc2.out.trans h1,h2⟩
end
end Go.Proofs.Ytifhldnmcdbpfaa
