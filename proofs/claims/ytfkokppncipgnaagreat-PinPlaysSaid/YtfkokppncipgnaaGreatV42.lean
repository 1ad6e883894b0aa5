/- A register of many words in the reference's play: plain numbers. -/
import Derived.Test.YtfkokppncipgnaaGreatV34
import Derived.Test.YtfkokppncipgnaaGreatV35
import Derived.Test.YtfkokppncipgnaaGreatV41
import Derived.Test.YtfkokppncipgnaaGreatV20
import Derived.Test.YtfkokppncipgnaaGreatV16
import Derived.BigQuiet
import Derived.Test.YtfkokppncipgnaaGreatV21
import Derived.Deep.AppendLies
set_option maxRecDepth 100000
set_option linter.unusedVariables false
set_option linter.unusedSimpArgs false
set_option linter.unnecessarySimpa false
namespace Go.Proofs.YtfkokppncipgnaaGreat
section
open Go.RowKit
def piRdPg (n k q:Nat):Nat->List Nat->Pg
 | 0,l=>.acc 3 ((1+q:Nat):Int) 1 0 id λ_=>.ret λt _=>⟨t.err,t.val,l,[2*t.ticks.getD 0 0],t.priv⟩
 | m+1,l=>.acc 0 ((piWord n k q (k - (m+1)):Nat):Int) 0 0 id λg=>piRdPg n k q m (l++[g])
def piOwn (n:Nat) (own:List Nat) (q x:Nat):List Nat:=
 ((own.set (own.getD (n+2) 0) (((own.getD (own.getD (n+2) 0) 0+x) % 18446744073709551616+18446744073709551616 - own.getD (n+1) 0) % 18446744073709551616)).set (n+1) x).set (n+2) q
def piChPg (n q:Nat) (own:List Nat):Pg:=.acc 3 0 (piDiff q (own.getD (n+2) 0)) 0 id λg=>.ret λt _=>⟨t.err,t.val,t.list,t.key,piOwn n own q (g % 4294967296)⟩
def piFlPg (n k a q:Nat) (own:List Nat):Nat->Pg
 | 0=>piChPg n q own
 | m+1=>.acc 1 ((piWord n k q (k - (m+1)):Nat):Int) ((a+(k - (m+1))) % 18446744073709551616) 0 id λ_=>piFlPg n k a q own m
def piLkPg (n k a:Nat) (own:List Nat):Nat->Pg
 | 0=>.ret λt _=>t.outs
 | m+1=>if n - m=own.getD (n+2) 0 then piLkPg n k a own m else .acc 0 ((1+(n - m):Nat):Int) 0 0 id λg=>if g=own.getD (n - m) 0 then piFlPg n k a (n - m) own k else piLkPg n k a own m
def piPad (n:Nat) (l:List Nat):List Nat:=l++List.replicate (n+3 - l.length) 0
def piErr (e:Int):Pg:=.ret λt _=>⟨e,t.val,t.list,t.key,t.priv⟩
def piPg (n k:Nat) (c:CallD) (p:Nat) (own:List Nat):Pg:=
 if c.kind=1 then .acc 3 0 1 0 id λg=>piRdPg n k (g / 4294967296) k []
 else if c.kind≠0 then piErr 9
 else if p≠0 then piErr 11
 else piLkPg n k c.a (piPad n own) (n+1)
def rpinDo (n k:Nat) (c:CallD) (t:TapeP) (r:RWD):TapeP×RWD:=(piPg n k c t.thread t.priv).run t r
theorem piRd_effs (n k q:Nat):∀ m l,(piRdPg n k q m l).effs
 | 0,_=>⟨effOk_id,λ_=>trivial⟩
 | m+1,l=>⟨effOk_id,λg=>piRd_effs n k q m _⟩
theorem piFl_effs (n k a q:Nat) (own:List Nat):∀ m,(piFlPg n k a q own m).effs
 | 0=>⟨effOk_id,λ_=>trivial⟩
 | m+1=>⟨effOk_id,λg=>piFl_effs n k a q own m⟩
theorem piLk_effs (n k a:Nat) (own:List Nat):∀ m,(piLkPg n k a own m).effs
 | 0=>trivial
 | m+1=>by
  unfold piLkPg
  split
  ·exact piLk_effs n k a own m
  ·refine⟨effOk_id,λg=>?_⟩
   show Pg.effs (if _ then _ else _)
   split
   ·exact piFl_effs n k a _ own k
   ·exact piLk_effs n k a own m
theorem pi_effs (n k:Nat) (c:CallD) (p:Nat) (own:List Nat):(piPg n k c p own).effs:=by
 unfold piPg
 split
 ·exact⟨effOk_id,λ_=>piRd_effs ..⟩
 ·split
  ·trivial
  ·split
   ·trivial
   ·exact piLk_effs ..
theorem piOwn_len (n:Nat) (own:List Nat) (q x:Nat):(piOwn n own q x).length=own.length:=by simp [piOwn]
theorem piFl_short (n k a q:Nat) (own:List Nat) (ho:own.length<=1000):∀ m,(piFlPg n k a q own m).short 1000
 | 0=>λg t r _=>by show(piOwn n own q _).length<=1000;rw [piOwn_len];exact ho
 | m+1=>λg=>piFl_short n k a q own ho m
theorem piRd_short (n k q:Nat):∀ m l,(piRdPg n k q m l).short 1000
 | 0,_=>λ_ t _ h=>h
 | m+1,l=>λg=>piRd_short n k q m _
theorem piLk_short (n k a:Nat) (own:List Nat) (ho:own.length<=1000):∀ m,(piLkPg n k a own m).short 1000
 | 0=>λt _ h=>h
 | m+1=>by
  unfold piLkPg
  split
  ·exact piLk_short n k a own ho m
  ·intro g
   show Pg.short 1000 (if _ then _ else _)
   split
   ·exact piFl_short n k a _ own ho k
   ·exact piLk_short n k a own ho m
theorem piPad_len (n:Nat) (l:List Nat) (h:l.length<=1000) (hn:n<=16):(piPad n l).length<=1000:=by
 unfold piPad;rw [List.length_append,List.length_replicate];omega
theorem rpin_dob (n k:Nat) (hn:n<=16):DoB (rpinDo n k) where
 runs:=λc t r=>Pg.runs _ t r (pi_effs n k c t.thread t.priv)
 priv:=by
  intro c t r h
  refine Pg.run_short (N:=1000) _ t r ?_ h
  unfold piPg
  split
  ·exact λ_=>piRd_short ..
  ·split
   ·exact λ_ _ h=>h
   ·split
    ·exact λ_ _ h=>h
    ·exact piLk_short n k c.a _ (piPad_len n _ h hn) _
theorem rpin_dot (n k:Nat):DoT (rpinDo n k):=λc t r x hx=>Pg.ticks _ t r (pi_effs n k c t.thread t.priv) x hx
theorem piLk_next {n k a now q:Nat} {own:List Nat} (ho:own.getD (n+2) 0=now) (hq:q<=n):piLkPg n k a own (n+1 - q)=piLkPg n k a own (n+1 - piNext now q):=by
 unfold piNext
 split
 ·rename_i h
  obtain⟨m,hm⟩:∃ m,n+1 - q=m+1:=⟨n - q,by omega⟩
  rw [hm,show n+1 - (q+1)=m by omega]
  show(if n - m=own.getD (n+2) 0 then _ else _)=_
  rw [if_pos (by rw [ho,<-h];omega)]
 ·rfl
def piTree (n k:Nat) (c:CallD) (o:PinO) (own:List Nat) (h:RHand):PiS->Pg->Prop
 | .rd _ 0 l _,P=>c.kind=1/\l=[]/\h.ticks=[]/\P=.acc 3 0 1 0 id λg=>piRdPg n k (g / 4294967296) k []
 | .rd q (j+1) l key,P=>c.kind=1/\j<=k/\P=piRdPg n k q (k - j) l/\key=[2*h.ticks.getD 0 0]/\1<=h.ticks.length/\h.got.getD 0 0 / 4294967296=q
 | .wr v q i 0,P=>c.kind=0/\v=c.a/\i=0/\P=piLkPg n k c.a own (n+1 - q)
 | .wr v q i 1,P=>c.kind=0/\v=c.a/\i<k/\P=piFlPg n k c.a q own (k - i)
 | .wr v q _ (_+2),P=>c.kind=0/\v=c.a/\P=piChPg n q own
structure PiOwn (n:Nat) (o:PinO) (own:List Nat):Prop where
 len:own.length=0∨own.length=n+3
 pad:piPad n own=o.come++[o.last,o.now]
def pinSim (n k:Nat):RefSim (pinS n k) where
 Rel:=λo _ p c h σ=>h.ticks.length=h.got.length/\(piPg n k c p h.own).deep h.got/\piTree n k c o (piPad n h.own) h σ ((piPg n k c p h.own).res h.got)
 Own:=λo p own=>p=0->PiOwn n o own
theorem piPad_at {n:Nat} {o:PinO} {own:List Nat} (h:PiOwn n o own) (hc:o.come.length=n+1):(piPad n own).getD (n+1) 0=o.last/\(piPad n own).getD (n+2) 0=o.now/\(∀ i,i<=n->(piPad n own).getD i 0=o.come.getD i 0)/\(piPad n own).length=n+3:=by
 rw [h.pad]
 refine⟨?_,?_,λi hi=>?_,by rw [List.length_append,hc];rfl⟩
 ·rw [List.getD_eq_getElem?_getD,List.getElem?_append_right (by omega),hc,Nat.sub_self];rfl
 ·rw [List.getD_eq_getElem?_getD,List.getElem?_append_right (by omega),hc,show n+2 - (n+1)=1 by omega];rfl
 ·rw [List.getD_eq_getElem?_getD,List.getD_eq_getElem?_getD,List.getElem?_append_left (by omega)]
theorem pi_hrs {n:Nat} {r:RWD} {wd:WD} (hrw:RwSim n r wd) {m m':MemD} (e:m=m') (el:m.ws.length=r.mem.ws.length):RwSim n { r with mem:=m } { wd with mem:=m' }:=⟨e,hrw.now,hrw.mlen,hrw.marks,hrw.tr,hrw.tl.acc rfl el⟩
theorem acc_read {n:Nat} {r:RWD} {wd:WD} (h:RwSim n r wd) (a:Nat):(memAcc r.mem 0 (a:Int) 0 0).2=taGot wd a/\RwSim n { r with mem:=(memAcc r.mem 0 (a:Int) 0 0).1 } (taRead wd a):=by
 have e:memAcc r.mem 0 (a:Int) 0 0=memRead wd.mem (a:Int):=by rw [h.mem];rfl
 exact⟨by rw [e];rfl,pi_hrs h (by rw [e]) (by rw [e,h.mem];exact memRead_len _ _)⟩
theorem acc_write {n:Nat} {r:RWD} {wd:WD} (h:RwSim n r wd) (a v:Nat):RwSim n { r with mem:=(memAcc r.mem 1 (a:Int) v 0).1 } (doWrite wd a v):=by
 have e:(memAcc r.mem 1 (a:Int) v 0).1=memWrite wd.mem (a:Int) v:=by rw [h.mem];rfl
 exact pi_hrs h e (by rw [e,h.mem];exact memWrite_len _ _ _)
theorem acc_add {n:Nat} {r:RWD} {wd:WD} (h:RwSim n r wd) (a v:Nat):(memAcc r.mem 3 (a:Int) v 0).2=adGot wd a v/\RwSim n { r with mem:=(memAcc r.mem 3 (a:Int) v 0).1 } (doAdd wd a v):=by
 have e:memAcc r.mem 3 (a:Int) v 0=memAdd wd.mem (a:Int) v:=by rw [h.mem];rfl
 exact⟨by rw [e];rfl,pi_hrs h (by rw [e]) (by rw [memAcc_len])⟩
end
section

/- The reference's tape: its last tick, what it marks, and what it notes. -/
open Go.RowKit
variable {B:RBase} {w w':World} {t:TapeP} {r:RWD}
theorem ListsAt.put {Mut:Nat->Prop} {b n p:Nat} {ls:List (List Int)} {v:Value} {l:List Int} (h:ListsAt w Mut b n ls) (hM:Mut b) (hv:Lst w Mut v l):ListsAt (w.setCell ⟨b,p,none⟩ v) Mut b n (ls.set p l):=by
 obtain⟨vs,hb,hn,hvs⟩:=h.blk
 have hc:Chg (λk=>k=b) w (w.setCell ⟨b,p,none⟩ v):=(Chg.refl (λk=>k=b) w).setCell (p:=⟨b,p,none⟩) (.inl rfl) _
 have hS:∀ k,k=b->Mut k:=λk e=>by rw [e];exact hM
 refine⟨by simpa using h.len,vs.set p v,by rw [blk_set hb];simp,by simpa using hn,λi hi=>?_⟩
 by_cases e:p=i
 ·subst e
  rw [getD_set_eq (by omega),getD_set_eq (by rw [h.len];exact hi)]
  exact hv.keep hc hS (MutUp.refl _ _)
 ·rw [getD_set_neq e,getD_set_neq e]
  exact(hvs i hi).keep hc hS (MutUp.refl _ _)
theorem RAt.world (h:RAt B w t r):(∃ bW,bW=B.I.bW/\w.cell? ⟨B.I.tb,B.I.pre.length,none⟩=some (.pointer (some ⟨bW,0,none⟩))/\w.cell? ⟨bW,7,none⟩=some (.slice (some ⟨B.I.bM,0,none⟩) r.marks.length r.marks.length)/\w.cell? ⟨bW,8,none⟩=some (.slice (some ⟨B.I.bT,0,none⟩) r.traces.length r.traces.length))/\
  (∀ p,p<r.marks.length->(∃ v,w.cell? ⟨B.I.bM,p,none⟩=some v/\RAtL B w t r v (r.marks.getD p []))/\w.frozen? ⟨B.I.bM,p,none⟩=false)/\(∀ p,p<r.traces.length->(∃ v,w.cell? ⟨B.I.bT,p,none⟩=some v/\RAtL B w t r v (r.traces.getD p []))/\w.frozen? ⟨B.I.bT,p,none⟩=false):=by
 obtain⟨G,K,L,h1,h2⟩:=h
 obtain⟨PV,LV,KV,ht,_⟩:=h1.tape
 obtain⟨ms,hM,hmn,hms⟩:=h1.marks.blk
 obtain⟨ts,hT,htn,hts⟩:=h1.traces.blk
 obtain⟨wa,cap,_,hW,_⟩:=ht.mem.blk
 have hW':w.heap[B.I.bW]?=_:=hW
 have e1:=h1.marks.len
 have e2:=h1.traces.len
 refine⟨⟨B.I.bW,rfl,ht.cell0,?_,?_⟩,λp hp=>⟨⟨ms.getD p undef,?_,G,K,L,h1,h2,hms p (by omega)⟩,frozen_blk hM _⟩,λp hp=>⟨⟨ts.getD p undef,?_,G,K,L,h1,h2,hts p (by omega)⟩,frozen_blk hT _⟩⟩
 ·rw [cell_blk hW',e1];rfl
 ·rw [cell_blk hW',e2];rfl
 ·rw [cell_blk hM];simp [List.getD_eq_getElem?_getD,show p<ms.length by omega]
 ·rw [cell_blk hT];simp [List.getD_eq_getElem?_getD,show p<ts.length by omega]
theorem RAt.lists (h:RAt B w t r):(∃ gc ga,w.cell? ⟨B.I.tb,B.I.pre.length+3,none⟩=some (.slice ga t.got.length gc))/\(∃ ka kc,w.cell? ⟨B.I.tb,B.I.pre.length+4,none⟩=some (.slice ka t.ticks.length kc)/\∀ i,i<t.ticks.length->∃ b o,ka=some ⟨b,o,none⟩/\w.cell? ⟨b,o+i,none⟩=some (.int .i64 (t.ticks.getD i 0)))/\t.at_<=t.got.length/\t.ticks.length=t.got.length/\t.got.length<=100000000:=by
 obtain⟨G,K,L,h1,h2⟩:=h
 obtain⟨PV,LV,KV,ht,_⟩:=h1.tape
 have hgl:t.got.length<=100000000:=ht.glen
 obtain⟨ga,gc,rfl⟩:=row_form ht.got
 obtain⟨ka,kc,rfl⟩:=row_form ht.ticks
 have htl:=h1.tl
 refine⟨⟨gc,ga,ht.cell (i:=3) (by omega)⟩,⟨ka,kc,ht.cell (i:=4) (by omega),λi hi=>?_⟩,h1.at_le,htl,hgl⟩
 have hkr:w.ownsRow 0 3 1 (.slice ka t.ticks.length kc) t.ticks.length (t.ticks.map intV):=ht.ticks
 obtain⟨hsl,_⟩:=row_sl hkr (by unfold maxLen;omega) (g:=intG t.ticks) (λj hj=>by simp [intG,intV,List.getD_eq_getElem?_getD,hj])
 obtain⟨b,o,rfl,_,hc⟩:=hsl.2 i hi
 have:=hc 0 (by omega)
 rw [Nat.mul_one,Nat.add_zero] at this
 exact⟨b,o,rfl,this⟩
theorem last_r (h:RAt B w t r):Calls Tryz.prog 93 #[.pointer (some ⟨B.I.tb,B.I.pre.length,none⟩)] w λe w'=>e=.returned (.int .i64 (lastP t))/\Below w.heap.size w w':=by
 have c5:=h.cAt
 have c2:=h.cInv
 obtain⟨_,⟨ka,kc,c4,hk⟩,h1,h2,h3⟩:=h.lists
 obtain⟨l,hl⟩:∃ l,l=lastP t:=⟨_,rfl⟩
 rw [<-hl]
 by_cases h0:t.at_=0
 ·have hl':l=(t.inv:Int):=by rw [hl];unfold lastP;rw [if_pos h0]
  subst hl'
  rw [h0] at c5
  clear hl hk c4 h1 h2 h3 h h0
  go_enter Tryz.func93,Tryz.ntmps93
  go_wp2
  go_ret
  exact⟨rfl,Gr.refl _⟩
 ·have hl':l=t.ticks.getD (t.at_ - 1) 0:=by rw [hl];unfold lastP;rw [if_neg h0]
  obtain⟨b,o,rfl,hc⟩:=hk (t.at_ - 1) (by omega)
  rw [<-hl'] at hc
  obtain⟨n,hn⟩:∃ n,n=t.ticks.length:=⟨_,rfl⟩
  obtain⟨a,ha⟩:∃ a,a=t.at_ - 1:=⟨_,rfl⟩
  have ha1:t.at_=a+1:=by omega
  rw [<-hn] at c4
  rw [<-ha] at hc
  rw [ha1] at c5
  have c5':w.cell? ⟨B.I.tb,B.I.pre.length+5,none⟩=some (.int .i64 ((a:Int)+1)):=c5
  have l1:(a:Int)<(n:Int):=by omega
  have l2:¬ ((a:Int)+1)=0:=by omega
  have l3:(((a:Int)+1) == 0)=false:=by simp;omega
  have l4:IntKind.i64.wrap ((a:Int)+1 - 1)=(a:Int):=by rw [IntKind.wrap_i64];omega
  have l5:IntKind.i64.wrap (a:Int)=(a:Int):=by rw [IntKind.wrap_i64];omega
  have l6:¬ (a:Int)<0:=by omega
  have C5:=grown_cell c5';have C4:=grown_cell c4;have HC:=grown_cell hc
  clear hl hl' hk c4 h1 h2 h3 h h0 c5 hc ha hn ha1 c2
  go_enter Tryz.func93,Tryz.ntmps93
  go_upto_region 3 with fail
  ((with_reducible refine wp_region_grown_lit (by kernel_rfl) (by kernel_rfl) ?_);(repeat ((with_reducible refine wpQuiet_step (λK hK=>?_));go_simp;((with_reducible refine hK _ ?_);clear hK K)));(with_reducible refine wpQuiet_nil ?_);intro _ hw';obtain⟨nq,hw''⟩:=hw';subst hw'')
  have hb:=nq.below
  go_wp2
  go_ret
  exact⟨rfl,hb⟩
end
section

/- The reference's tape: what it marks, and what it notes. -/
open Go.RowKit
variable {B:RBase} {w w':World} {t:TapeP} {r:RWD}
end
section

/- What was noted at an address, and what is noted there. -/
open Go.RowKit
variable {B:RBase} {w w':World} {t:TapeP} {r:RWD}
end
section

/- A list of ints is copied into a slice of its own, at the list of a plain region. -/
open Go.RowKit
end
section

/- A tape beside blocks that its caller has made, and writes to. -/
open Go.RowKit
variable {B:RBase} {w w':World} {t t':TapeP} {r r':RWD} {X X':Nat->Prop}
def RIds.plus (I:RIds) (X:Nat->Prop):RIds:={ I with Mx:=λb=>I.Mx b∨X b }
theorem RTapeAt.re {I:RIds} {G K L:Value} {S Mx':Nat->Prop} (h:RTapeAt w I G K L t r) (hc:Chg S w w') (hS:∀ b,S b->I.Mx b) (hX:∀ b,Mx' b->I.Mx b∨(w.heap.size<=b/\b<w'.heap.size)):RTapeAt w' { I with Mx:=Mx' } G K L t r:=by
 have hlow:=h.mutlow
 obtain⟨PV,LV,KV,ht,hp,hl,hk⟩:=h.tape
 have hn:∀ b,S b->¬ RSet I G K L b:=λb hb=>h.dis b (hS b hb)
 have hM:∀ b,S b->RMut I G K L b:=λb hb=>.inr (hS b hb)
 have hup:MutUp (RMut I G K L) w (RMut { I with Mx:=Mx' } G K L):=λb hb=>by
  rcases hb with hb|hb
  ·exact .inl (.inl hb)
  ·rcases hX b hb with h9|h9
   ·exact .inl (.inr h9)
   ·exact .inr h9.1
 refine⟨⟨PV,LV,KV,ht.chg hc (λk hk hs=>hn k hs (.inl hk)),hp.keep hc hM hup,hl.keep hc hM hup,hk.keep hc hM hup⟩,h.marks.keep hc hM hup (λhs=>hn _ hs (.inr (.inl rfl))),h.traces.keep hc hM hup (λhs=>hn _ hs (.inr (.inr rfl))),h.sep,λb hb hs=>?_,λb hb=>?_,h.at_le,h.tl,h.room⟩
 ·rcases hX b hb with h9|h9
  ·exact h.dis b h9 hs
  ·have:=hlow b (.inl hs);omega
 ·rcases hX b hb with h9|h9
  ·exact Nat.lt_of_lt_of_le (h.low b h9) hc.size
  ·exact h9.2
def RAtO (B:RBase) (w:World) (t:TapeP) (r:RWD) (X:Nat->Prop):Prop:=∃ G K L,RTapeAt w (B.I.plus X) G K L t r/\RTo B.w0 w B.I B.G B.K B.L G K L/\∀ b,X b->B.w0.heap.size<=b
theorem RAt.own (h:RAt B w t r) (hb:Below w.heap.size w w') (hX:∀ b,X b->w.heap.size<=b/\b<w'.heap.size):RAtO B w' t r X:=by
 obtain⟨G,K,L,h1,h2⟩:=h
 exact⟨G,K,L,h1.re (S:=noB) (Chg.of_below hb) (λ_ e=>e.elim) (λb hb=>hb.imp_right (hX b)),h2.trans (h1.grown hb).2,λb hb=>Nat.le_trans h2.chg.size (hX b hb).1⟩
theorem RAtO.at (h:RAtO B w t r X):RAt B w t r:=by
 obtain⟨G,K,L,h1,h2,_⟩:=h
 exact⟨G,K,L,h1.re (S:=noB) (Mx':=B.I.Mx) (Chg.refl _ _) (λ_ e=>e.elim) (λb hb=>.inl (.inl hb)),h2⟩
theorem RAtO.lt (h:RAtO B w t r X) (b:Nat) (hb:X b):b<w.heap.size:=by
 obtain⟨G,K,L,h1,_⟩:=h
 exact h1.low b (.inr hb)
theorem RAtO.turn (h:RAtO B w t r X) (hc:Chg X w w') (hX:∀ b,X' b->X b∨(w.heap.size<=b/\b<w'.heap.size)):RAtO B w' t r X':=by
 obtain⟨G,K,L,h1,h2,h3⟩:=h
 have hsz:=h2.chg.size
 refine⟨G,K,L,h1.re hc (λb hb=>.inr hb) (λb hb=>?_),⟨⟨hc.os.trans h2.chg.os,hc.tape.trans h2.chg.tape,hc.output.trans h2.chg.output,Nat.le_trans hsz hc.size,λk hk hs=>(hc.block k (Nat.lt_of_lt_of_le hk hsz) (λhx=>by have:=h3 k hx;omega)).trans (h2.chg.block k hk hs)⟩,h2.kg,h2.kk,h2.kl⟩,λb hb=>?_⟩
 ·rcases hb with hb|hb
  ·exact .inl (.inl hb)
  ·rcases hX b hb with h9|h9
   ·exact .inl (.inr h9)
   ·exact .inr h9
 ·rcases hX b hb with h9|h9
  ·exact h3 b h9
  ·omega
theorem RAtO.grown (h:RAtO B w t r X) (hb:Below w.heap.size w w'):RAtO B w' t r X:=h.turn (Chg.of_below hb) (λ_ hb=>.inl hb)
theorem RAtO.call {F:Nat} {args:Array Value} {R:Ending->World->Prop} (h:RAtO B w t r X) (C:∀ B':RBase,B'.I.tb=B.I.tb->B'.I.pre=B.I.pre->RAt B' w t r->Calls Tryz.prog F args w (λe w'=>R e w'/\RAt B' w' t' r')) :
  Calls Tryz.prog F args w (λe w'=>R e w'/\RAtO B w' t' r' X/\w.heap.size<=w'.heap.size/\∀ b,X b->w'.heap[b]?=w.heap[b]?):=by
 obtain⟨G,K,L,h1,h2,h3⟩:=h
 refine(C ⟨w,B.I.plus X,G,K,L⟩ rfl rfl ⟨G,K,L,h1,RTo.refl _ _ _ _ _⟩).mono ?_
 rintro e w' ⟨hR,G',K',L',k1,k2⟩
 exact⟨hR,⟨G',K',L',k1,h2.trans (⟨k2.chg,k2.kg,k2.kk,k2.kl⟩:RTo w w' B.I G K L G' K' L'),h3⟩,k2.chg.size,λb hb=>k2.chg.block b (h1.low b (.inr hb)) (h1.dis b (.inr hb))⟩
theorem RAtO.callL {w0:World} {F:Nat} {args:Array Value} {R:Ending->World->Prop} {a:Option Addr} {c:Nat} {l:List Int} (h:RAtO B w0 t r X) (hb:Below w0.heap.size w0 w) (hs:SlAt w a l.length 1 (intG l)) (hn:l=[]->a=none/\c=0) (hlo:∀ b off,a=some ⟨b,off,none⟩->w0.heap.size<=b) (C:∀ B':RBase,B'.I.tb=B.I.tb->B'.I.pre=B.I.pre->RAtL B' w t r (.slice a l.length c) l->Calls Tryz.prog F args w (λe w'=>R e w'/\RAt B' w' t' r')) :
  Calls Tryz.prog F args w (λe w'=>R e w'/\RAtO B w' t' r' X/\w.heap.size<=w'.heap.size/\∀ b,X b->w'.heap[b]?=w.heap[b]?):=by
 obtain⟨G,K,L,h1,h2,h3⟩:=h.grown hb
 obtain⟨G0,K0,L0,k1,k2,k3⟩:=h
 have h0:RAtL ⟨w0,B.I.plus X,G0,K0,L0⟩ w t r (.slice a l.length c) l:=RAt.newL (B:=⟨w0,B.I.plus X,G0,K0,L0⟩) ⟨G0,K0,L0,k1,RTo.refl _ _ _ _ _⟩ hb hs hn hlo
 obtain⟨G,K,L,m1,m2,m3⟩:=h0
 refine(C ⟨w,B.I.plus X,G,K,L⟩ rfl rfl ⟨G,K,L,m1,RTo.refl _ _ _ _ _,m3⟩).mono ?_
 rintro e w' ⟨hR,G',K',L',q1,q2⟩
 exact⟨hR,⟨G',K',L',q1,(k2.trans (⟨m2.chg,m2.kg,m2.kk,m2.kl⟩:RTo w0 w B.I G0 K0 L0 G K L)).trans (⟨q2.chg,q2.kg,q2.kk,q2.kl⟩:RTo w w' B.I G K L G' K' L'),k3⟩,q2.chg.size,λb hb=>q2.chg.block b (m1.low b (.inr hb)) (m1.dis b (.inr hb))⟩
end
section

/- The reference's tape while its operation makes the list of its answer. -/
open Go.RowKit
variable {B:RBase} {w w' w1:World} {t t':TapeP} {r r':RWD} {LV LV':Value}
structure RTapeQ (w:World) (I:RIds) (G K L LV:Value) (t:TapeP) (r:RWD):Prop where
 tape:∃ PV KV,TapeAt w I.tids G K L (t.raw PV LV KV) r.mem r.now/\LstU w (RMut I G K L) PV t.priv/\Lst w (RMut I G K L) KV t.key
 row:w.ownsRow 0 46 1 LV t.list.length (t.list.map u64V)
 mx:∀ b,LV.ownBlock=some b->I.Mx b
 nil:t.list=[]->LV=.slice none 0 0
 marks:ListsAt w (RMut I G K L) I.bM I.nM r.marks
 traces:ListsAt w (RMut I G K L) I.bT I.nT r.traces
 sep:I.bM≠I.bT/\I.T≠24/\∀ q,I.bw=some q->q≠I.bM/\q≠I.bT
 dis:∀ b,I.Mx b->¬ RSet I G K L b
 low:∀ b,I.Mx b->b<w.heap.size
 at_le:t.at_<=t.got.length
 tl:t.ticks.length=t.got.length
 room:t.fresh=true->t.halt=false->r.mem.c.all+1<1000000000000/\t.got.length+1<=100000000
section q
variable {I:RIds} {G K L G' K' L':Value}
theorem RTapeQ.bare (h:RTapeQ w I G K L LV t r):∃ PV KV,TapeAt w I.tids G K L (t.raw PV LV KV) r.mem r.now/\LstU w (RMut I G K L) PV t.priv/\Lst w (RMut I G K L) KV t.key/\¬ TSet I.tids G K L I.bM/\¬ TSet I.tids G K L I.bT:=by
 obtain⟨PV,KV,ht,hp,hk⟩:=h.tape
 obtain⟨ms,hm,_⟩:=h.marks.blk
 obtain⟨ts,htr,_⟩:=h.traces.blk
 obtain⟨s1,s2,s3⟩:=h.sep
 obtain⟨n,xs,_,hl⟩:=ht.log
 obtain⟨_,_,_,hW,_⟩:=ht.mem.blk
 have key:∀(b:Nat) (cs:Array Value),w.heap[b]?=some (.cells cs 24 (0,0))->(∀ q,I.bw=some q->q≠b)->¬ TSet I.tids G K L b:=λb cs hb hq hs=>by
  rcases hs with e|e|e|e|e|e
  ·rw [e,ht.blk] at hb
   simp only [Option.some.injEq,Obj.cells.injEq] at hb
   exact s2 hb.2.1
  ·rw [e,hW] at hb
   simp only [Option.some.injEq,Obj.cells.injEq] at hb
   exact absurd hb.2.1 (by decide)
  ·exact hq b e rfl
  ·exact row_ne ht.got hb (by decide) e
  ·exact row_ne ht.ticks hb (by decide) e
  ·exact row_ne hl hb (by decide) e
 exact⟨PV,KV,ht,hp,hk,key _ _ hm (λq e=>(s3 q e).1),key _ _ htr (λq e=>(s3 q e).2)⟩
theorem RTapeQ.lift (h:RTapeQ w I G K L LV t r):∃ PV KV,TapeAt w I.tids G K L (t.raw PV LV KV) r.mem r.now/\∀ {w' G' K' L' t' r'},TapeAt w' I.tids G' K' L' (TapeP.raw t' PV LV KV) (RWD.mem r') (RWD.now r')->TapeTo w w' I.tids G K L G' K' L'->t'.priv=t.priv->t'.list=t.list->t'.key=t.key->r'.marks=r.marks->r'.traces=r.traces->
  t'.at_<=t'.got.length->t'.ticks.length=t'.got.length->(t'.fresh=true->t'.halt=false->r'.mem.c.all+1<1000000000000/\t'.got.length+1<=100000000)->RTapeQ w' I G' K' L' LV t' r'/\RTo w w' I G K L G' K' L':=by
 obtain⟨PV,KV,ht,hp,hk,bm,bt⟩:=h.bare
 refine⟨PV,KV,ht,λ{w' G' K' L' t' r'} ht' tto e1 e2 e3 e4 e5 h1 h2 h3=>?_⟩
 have rto:RTo w w' I G K L G' K' L':=tto.rto
 have hS:∀ b,TSet I.tids G K L b->RMut I G K L b:=λb hb=>.inl (.inl hb)
 refine⟨⟨⟨PV,KV,ht',by rw [e1];exact hp.keep tto.chg hS rto.mut,by rw [e3];exact hk.keep tto.chg hS rto.mut⟩,by rw [e2];exact row_chg h.row tto.chg (λb hb hs=>h.dis b (h.mx b hb) (.inl hs)),h.mx,by rw [e2];exact h.nil,by rw [e4];exact h.marks.keep tto.chg hS rto.mut bm,by rw [e5];exact h.traces.keep tto.chg hS rto.mut bt,h.sep,λb hb hs=>?_,λb hb=>Nat.lt_of_lt_of_le (h.low b hb) tto.chg.size,h1,h2,h3⟩,rto⟩
 rcases rto.sub b hs with h9|h9
 ·exact h.dis b hb h9
 ·have:=h.low b hb;omega
theorem RTapeQ.grown (h:RTapeQ w I G K L LV t r) (hb:Below w.heap.size w w'):RTapeQ w' I G K L LV t r/\RTo w w' I G K L G K L:=by
 obtain⟨PV,KV,ht,hl⟩:=h.lift
 obtain⟨h1,h2⟩:=ht.grown hb
 exact hl h1 h2 rfl rfl rfl rfl rfl h.at_le h.tl h.room
theorem RTapeQ.push {Mx':Nat->Prop} (h:RTapeQ w I G K L LV t r) (hc:Chg (λb=>LV.ownBlock=some b) w w1) (l:List Nat) (hl:l≠[]) (hrow:w1.ownsRow 0 46 1 LV' l.length (l.map u64V)) (hm:∀ b,LV'.ownBlock=some b->Mx' b) (hX:∀ b,Mx' b->I.Mx b∨(w.heap.size<=b/\b<w1.heap.size)) :
  RTapeQ (w1.setCell ⟨I.tb,I.pre.length+11,none⟩ LV') { I with Mx:=Mx' } G K L LV' { t with list:=l } r:=by
 obtain⟨PV,KV,ht,hp,hk,bm,bt⟩:=h.bare
 have hn:∀ b,LV.ownBlock=some b->¬ RSet I G K L b:=λb hb=>h.dis b (h.mx b hb)
 have hM:∀ b,LV.ownBlock=some b->RMut I G K L b:=λb hb=>.inr (h.mx b hb)
 have hTlow:∀ b,RSet I G K L b->b<w.heap.size:=λb hb=>by
  obtain⟨ms,hm,_⟩:=h.marks.blk
  obtain⟨ts,htr,_⟩:=h.traces.blk
  obtain⟨n,xs,_,hl⟩:=ht.log
  have row:∀ {e:TypeId} {k n:Nat} {V:Value} {xs:List Value},w.ownsRow 0 e k V n xs->V.ownBlock=some b->b<w.heap.size:=λh1 e=>by
   obtain⟨cs,fz,h9⟩:=row_type h1 e
   exact blk_lt h9
  rcases hb with(e|e|e|e|e|e)|e|e
  ·rw [e];exact blk_lt ht.blk
  ·rw [e];exact ht.mem.lt
  ·exact ht.mem.low b e
  ·exact row ht.got e
  ·exact row ht.ticks e
  ·exact row hl e
  ·rw [e];exact blk_lt hm
  ·rw [e];exact blk_lt htr
 have hdis:∀ b,Mx' b->¬ RSet I G K L b:=λb hb hs=>by
  rcases hX b hb with h9|h9
  ·exact h.dis b h9 hs
  ·have:=hTlow b hs;omega
 have ht1:TapeAt w1 I.tids G K L (t.raw PV LV KV) r.mem r.now:=ht.chg hc (λk hk hs=>hn k hs (.inl hk))
 obtain⟨h3,h4⟩:=ht1.put (i:=11) (by omega) LV' (t':=TapeP.raw { t with list:=l } PV LV' KV) rfl rfl rfl
 have hS:∀ b,TSet I.tids G K L b->RMut I G K L b:=λb hb=>.inl (.inl hb)
 have hup:MutUp (RMut I G K L) w (RMut { I with Mx:=Mx' } G K L):=λb hb=>by
  rcases hb with hb|hb
  ·exact .inl (.inl hb)
  ·rcases hX b hb with h9|h9
   ·exact .inl (.inr h9)
   ·exact .inr h9.1
 have hS1:∀ b,TSet I.tids G K L b->RMut { I with Mx:=Mx' } G K L b:=λb hb=>.inl (.inl hb)
 have hlow1:∀ b,Mx' b->b<w1.heap.size:=λb hb=>by
  rcases hX b hb with h9|h9
  ·exact Nat.lt_of_lt_of_le (h.low b h9) hc.size
  ·exact h9.2
 refine⟨⟨PV,KV,h3,(hp.keep hc hM hup).keep h4.chg hS1 (MutUp.refl _ _),(hk.keep hc hM hup).keep h4.chg hS1 (MutUp.refl _ _)⟩,row_chg hrow h4.chg (λb hb hs=>hdis b (hm b hb) (.inl hs)),hm,λe=>absurd e hl,(h.marks.keep hc hM hup (λhs=>hn _ hs (.inr (.inl rfl)))).keep h4.chg hS1 (MutUp.refl _ _) bm,(h.traces.keep hc hM hup (λhs=>hn _ hs (.inr (.inr rfl)))).keep h4.chg hS1 (MutUp.refl _ _) bt,h.sep,hdis,λb hb=>Nat.lt_of_lt_of_le (hlow1 b hb) h4.chg.size,h.at_le,h.tl,h.room⟩
end q
def RAtQ (B:RBase) (w:World) (t:TapeP) (r:RWD) (LV:Value):Prop:=∃ G K L,RTapeQ w (B.I.plus (λb=>LV.ownBlock=some b)) G K L LV t r/\RTo B.w0 w B.I B.G B.K B.L G K L/\∀ b,LV.ownBlock=some b->B.w0.heap.size<=b/\¬ B.I.Mx b
theorem RAt.noList (h:RAt B w t r) (hl:t.list=[]):RAtQ B w t r (.slice none 0 0):=by
 obtain⟨G,K,L,h1,h2⟩:=h
 obtain⟨PV,LV,KV,ht,hp,hl9,hk⟩:=h1.tape
 obtain rfl:=hl9.2 hl
 refine⟨G,K,L,⟨⟨PV,KV,ht,?_,?_⟩,by rw [hl];exact⟨by decide,.inl ⟨rfl,rfl⟩⟩,(λb hb=>by cases hb),λ_=>rfl,?_,?_,h1.sep,λb hb=>?_,λb hb=>?_,h1.at_le,h1.tl,h1.room⟩,h2,(λb hb=>by cases hb)⟩
 all_goals have up:MutUp (RMut B.I G K L) w (RMut (B.I.plus (λb=>(Value.slice none 0 0).ownBlock=some b)) G K L):=λb hb=>(by
  rcases hb with hb|hb|hb
  ·exact .inl (.inl hb)
  ·exact .inl (.inr hb)
  ·cases hb)
 ·exact hp.keep (S:=noB) (Chg.refl _ _) (λ_ h=>h.elim) up
 ·exact hk.keep (S:=noB) (Chg.refl _ _) (λ_ h=>h.elim) up
 ·exact h1.marks.keep (S:=noB) (Chg.refl _ _) (λ_ h=>h.elim) up (λh=>h.elim)
 ·exact h1.traces.keep (S:=noB) (Chg.refl _ _) (λ_ h=>h.elim) up (λh=>h.elim)
 ·rcases hb with hb|hb
  ·exact h1.dis b hb
  ·cases hb
 ·rcases hb with hb|hb
  ·exact h1.low b hb
  ·cases hb
theorem RAtQ.fin (h:RAtQ B w t r LV) (hN:t.list.length<=1000000):RAt B w t r:=by
 obtain⟨G,K,L,h1,h2,h3⟩:=h
 obtain⟨PV,KV,ht,hp,hk⟩:=h1.tape
 have up:MutUp (RMut (B.I.plus (λb=>LV.ownBlock=some b)) G K L) w (RMut B.I G K L):=λb hb=>.inl (by
  rcases hb with hb|hb
  ·exact .inl hb
  ·exact .inr (.inl hb))
 obtain⟨a,c,rfl⟩:=row_form h1.row
 refine⟨G,K,L,⟨⟨PV,_,KV,ht,hp.keep (S:=noB) (Chg.refl _ _) (λ_ h=>h.elim) up,⟨⟨a,c,rfl,?_,λh0 b off e hm=>?_⟩,h1.nil⟩,hk.keep (S:=noB) (Chg.refl _ _) (λ_ h=>h.elim) up⟩,h1.marks.keep (S:=noB) (Chg.refl _ _) (λ_ h=>h.elim) up (λh=>h.elim),h1.traces.keep (S:=noB) (Chg.refl _ _) (λ_ h=>h.elim) up (λh=>h.elim),h1.sep,λb hb=>h1.dis b (.inl hb),λb hb=>h1.low b (.inl hb),h1.at_le,h1.tl,h1.room⟩,h2⟩
 ·exact(row_sl h1.row (by unfold maxLen;omega) (g:=u64G t.list) (λj hj=>by simp [u64G,u64V,List.getD_eq_getElem?_getD,hj])).1
 ·have hob:(Value.slice a t.list.length c).ownBlock=some b:=by rw [e];rfl
  rcases hm with hm|hm
  ·exact h1.dis b (.inr hob) hm
  ·exact(h3 b hob).2 hm
theorem RAtQ.cells (h:RAtQ B w t r LV):w.cell? ⟨B.I.tb,B.I.pre.length+11,none⟩=some LV/\w.cell? ⟨B.I.tb,B.I.pre.length+7,none⟩=some (.bool t.halt)/\(∀ i,w.frozen? ⟨B.I.tb,i,none⟩=false)/\B.I.tb<w.heap.size/\w.ownsRow 0 46 1 LV t.list.length (t.list.map u64V):=by
 obtain⟨G,K,L,h1,_⟩:=h
 obtain⟨PV,KV,ht,_⟩:=h1.tape
 exact⟨ht.cell (i:=11) (by omega),ht.cell (i:=7) (by omega),λi=>frozen_blk ht.blk i,blk_lt ht.blk,h1.row⟩
theorem RAtQ.blk (h:RAtQ B w t r LV):∃ cs,w.heap[B.I.tb]?=some (.cells cs B.I.T (0,0)):=by
 obtain⟨G,K,L,h1,_⟩:=h
 obtain⟨PV,KV,ht,_⟩:=h1.tape
 exact⟨_,ht.blk⟩
theorem RAtQ.sep (h:RAtQ B w t r LV):∀ b,LV.ownBlock=some b->b≠B.I.tb/\b<w.heap.size:=by
 obtain⟨G,K,L,h1,_⟩:=h
 exact λb hb=>⟨λe=>h1.dis b (.inr hb) (by rw [e];exact .inl (.inl rfl)),h1.low b (.inr hb)⟩
theorem RAtQ.grown (h:RAtQ B w t r LV) (hb:Below w.heap.size w w'):RAtQ B w' t r LV:=by
 obtain⟨G,K,L,h1,h2,h3⟩:=h
 obtain⟨h4,h5⟩:=h1.grown hb
 exact⟨G,K,L,h4,h2.trans ⟨h5.chg,h5.kg,h5.kk,h5.kl⟩,h3⟩
theorem RAtQ.push (h:RAtQ B w t r LV) (hc:Chg (λb=>LV.ownBlock=some b) w w1) (v:Nat) {g:Nat} (hg:LV'.ownBlock=some g) (hrow:w1.ownsRow 0 46 1 LV' (t.list++[v]).length ((t.list++[v]).map u64V)) (hold:LV.ownBlock=some g∨w.heap.size<=g) (hlt:g<w1.heap.size) :
  RAtQ B (w1.setCell ⟨B.I.tb,B.I.pre.length+11,none⟩ LV') { t with list:=t.list++[v] } r LV':=by
 obtain⟨G,K,L,h1,h2,h3⟩:=h
 have hX:∀ b,LV'.ownBlock=some b->LV.ownBlock=some b∨(w.heap.size<=b/\b<w1.heap.size):=λb hb=>by
  rw [hg] at hb;cases hb
  exact hold.imp_right (λh9=>⟨h9,hlt⟩)
 have hq:=h1.push (LV':=LV') (Mx':=λb=>B.I.Mx b∨LV'.ownBlock=some b) hc (t.list++[v]) (by simp) hrow (λb hb=>.inr hb) (λb hb=>by
  rcases hb with hb|hb
  ·exact .inl (.inl hb)
  ·rcases hX b hb with h9|h9
   ·exact .inl (.inr h9)
   ·exact .inr h9)
 have hsz:=h2.chg.size
 have hc2:Chg (λb=>LV.ownBlock=some b∨b=B.I.tb) w (w1.setCell ⟨B.I.tb,B.I.pre.length+11,none⟩ LV'):=(hc.mono (λ_ _ e=>.inl e)).setCell (p:=⟨B.I.tb,B.I.pre.length+11,none⟩) (.inl (.inr rfl)) _
 refine⟨G,K,L,hq,⟨⟨hc2.os.trans h2.chg.os,hc2.tape.trans h2.chg.tape,hc2.output.trans h2.chg.output,Nat.le_trans hsz hc2.size,λk hk hs=>(hc2.block k (Nat.lt_of_lt_of_le hk hsz) (λhx=>?_)).trans (h2.chg.block k hk hs)⟩,h2.kg,h2.kk,h2.kl⟩,λb hb=>?_⟩
 ·rcases hx with hx|hx
  ·have:=(h3 k hx).1;omega
  ·exact hs (by rw [hx];exact .inl (.inl rfl))
 ·rcases hX b hb with h9|h9
  ·exact h3 b h9
  ·exact⟨by omega,λhm=>by have:=h1.low b (.inl hm);omega⟩
section acc
set_option maxHeartbeats 1000000
theorem access_q (h:RAtQ B w t r LV) (kd a:Int) (x y:Nat) (hx:x<18446744073709551616) (hy:y<18446744073709551616) :
  Calls Tryz.prog 116 #[.pointer (some ⟨B.I.tb,B.I.pre.length,none⟩),.int .i64 kd,.int .i64 a,.int .u64 (x:Int),.int .u64 (y:Int)] w λe w'=>e=.returned (.int .u64 ((accP kd a x y t r).1:Int))/\RAtQ B w' (accP kd a x y t r).2.1 (accP kd a x y t r).2.2 LV/\Chg (λb=>LV.ownBlock≠some b) w w':=by
 obtain⟨G,K,L,h1,h2,h9⟩:=id h
 obtain⟨PV,KV,ht,hl⟩:=h1.lift
 obtain⟨I,hI⟩:∃ I,I=B.I.plus (λb=>LV.ownBlock=some b):=⟨_,rfl⟩
 have hm:∀ {w' G' K' L'},TapeTo w w' (B.I.plus (λb=>LV.ownBlock=some b)).tids G K L G' K' L'->Chg (λb=>LV.ownBlock≠some b) w w':=λh8=>h8.chg.mono (λb _ hs e=>h1.dis b (.inr e) (.inl hs))
 have hto:∀ {w' G' K' L'},RTo w w' (B.I.plus (λb=>LV.ownBlock=some b)) G K L G' K' L'->RTo w w' B.I G K L G' K' L':=λh8=>⟨h8.chg,h8.kg,h8.kk,h8.kl⟩
 unfold accP
 by_cases hh:t.halt=true
 ·rw [if_pos hh]
  refine(access_halt B.I.tids G K L (t.raw PV LV KV) r.mem r.now w kd a x y ht hh).mono ?_
  rintro e w' ⟨rfl,rfl⟩
  exact⟨rfl,h,Chg.refl _ _⟩
 ·rw [if_neg hh]
  have hh':t.halt=false:=by simpa using hh
  by_cases hat:t.at_<t.got.length
  ·rw [if_pos hat]
   refine(access_old B.I.tids G K L (t.raw PV LV KV) r.mem r.now w kd a x y ht hh' hat).mono ?_
   rintro e w' ⟨rfl,G',K',L',h3,h4⟩
   obtain⟨h5,h6⟩:=hl (t':={ t with at_:=t.at_+1 }) (r':=r) h3 h4 rfl rfl rfl rfl rfl hat h1.tl h1.room
   exact⟨rfl,⟨G',K',L',h5,h2.trans (hto h6),h9⟩,hm h4⟩
  ·rw [if_neg hat]
   have hat':t.at_=t.got.length:=by have:=h1.at_le;omega
   by_cases hf:t.fresh=true
   ·rw [if_pos hf]
    obtain⟨r1,r2⟩:=h1.room hf hh'
    refine(access_new B.I.tids G K L (t.raw PV LV KV) r.mem r.now kd a x y w ht hh' hf hat' hx hy r1 r2 (by show t.ticks.length+1<=_;rw [h1.tl];exact r2)).mono ?_
    rintro e w' ⟨rfl,G',K',L',h3,h4⟩
    obtain⟨h5,h6⟩:=hl (t':={ t with got:=t.got++[(memAcc r.mem kd a x y).2],ticks:=t.ticks++[(r.now:Int)],at_:=t.at_+1,fresh:=false }) (r':={ r with mem:=(memAcc r.mem kd a x y).1 }) h3 h4 rfl rfl rfl rfl rfl (by simp only [List.length_append,List.length_singleton];omega) (by simp only [List.length_append,List.length_singleton,h1.tl]) (λe=>by cases e)
    exact⟨rfl,⟨G',K',L',h5,h2.trans (hto h6),h9⟩,hm h4⟩
   ·rw [if_neg hf]
    refine(access_end B.I.tids G K L (t.raw PV LV KV) r.mem r.now w kd a x y ht hh' hat' (show t.fresh=false by simpa using hf)).mono ?_
    rintro e w' ⟨rfl,G',K',L',h3,h4⟩
    obtain⟨h5,h6⟩:=hl (t':={ t with halt:=true }) (r':=r) h3 h4 rfl rfl rfl rfl rfl h1.at_le h1.tl (λ_ e=>by cases e)
    exact⟨rfl,⟨G',K',L',h5,h2.trans (hto h6),h9⟩,hm h4⟩
theorem tread_q (h:RAtQ B w t r LV) (a:Int) :
  Calls Tryz.prog 88 #[.pointer (some ⟨B.I.tb,B.I.pre.length,none⟩),.int .i64 a] w λe w'=>e=.returned (.int .u64 ((accP 0 a 0 0 t r).1:Int))/\RAtQ B w' (accP 0 a 0 0 t r).2.1 (accP 0 a 0 0 t r).2.2 LV/\Chg (λb=>LV.ownBlock≠some b) w w':=by
 have A:=Lib.hid (access_q h 0 a 0 0 (by decide) (by decide))
 obtain⟨Z,hZ⟩:∃ Z,Z=accP 0 a 0 0 t r:=⟨_,rfl⟩
 rw [<-hZ] at A ⊢
 clear h hZ
 go_enter Tryz.func88,Tryz.ntmps88
 go_wp2_with (go_at_call 116;refine(A.out).mono ?_;rintro e w' ⟨rfl,h1,h2⟩)
 go_ret
 exact⟨rfl,h1,h2⟩
end acc
end
end Go.Proofs.YtfkokppncipgnaaGreat
