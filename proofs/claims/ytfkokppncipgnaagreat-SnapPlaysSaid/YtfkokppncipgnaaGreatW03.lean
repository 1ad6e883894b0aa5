/- Layer 2: the reference's contracts. -/
import Derived.Test.YtfkokppncipgnaaGreatW02
import Derived.Deep.QuietTactic
import Derived.BigQuiet
import Derived.Test.YtfkokppncipgnaaGreatW01
import Derived.Maps.OwnOps
import Derived.Maps.Views
import Derived.StillTailTactics
set_option maxRecDepth 100000
set_option linter.unusedVariables false
set_option linter.unusedSimpArgs false
set_option linter.unnecessarySimpa false
namespace Go.Proofs.YtfkokppncipgnaaGreat
section
open Go.RowKit
def b01 (b:Bool):Nat:=if b then 1 else 0
def bA (m:dR) (kind a:Int) (x y:Nat):dR×Nat:=
 if kind=0 then bL m a else if kind=1 then (fJ m a x,0) else if kind=2 then ((vF m a x y).1,b01 (vF m a x y).2) else yA m a x
def eQ (wa:Option Addr) (n cap:Nat) (c:eO) (tail:List Value):Array Value:=
 (.slice wa n cap::.int .i64 (c.read:Int)::.int .i64 (c.write:Int)::.int .i64 (c.swap:Int)::.int .i64 (c.add:Int)::.int .i64 (c.fault:Int)::tail).toArray
structure fP (w:World) (b:Nat) (T:TypeId) (tail:List Value) (bw:Option Nat) (m:dR):Prop where
 blk:∃ wa cap,JK wa m.ws.length cap/\w.heap[b]?=some (.cells (eQ wa m.ws.length cap m.c tail) T (0,0))/\
  (0<m.ws.length->∃ q rest,bw=some q/\wa=some ⟨q,0,none⟩/\w.heap[q]?=some (.cells (m.ws.map bI++rest).toArray 46 (0,0)))
 apart:bw≠some b
 low:∀ q,bw=some q->q<w.heap.size
 len:m.ws.length<=1048576
 cnt:m.c.all<1000000000000
 val:∀ x∈m.ws,x<18446744073709551616
theorem fP.lt {w:World} {b:Nat} {T:TypeId} {tail:List Value} {bw:Option Nat} {m:dR} (h:fP w b T tail bw m):b<w.heap.size:=by obtain⟨_,_,_,h1,_⟩:=h.blk;exact aC h1
theorem fP.chg {S:Nat->Prop} {w w':World} {b:Nat} {T:TypeId} {tail:List Value} {bw:Option Nat} {m:dR} (h:fP w b T tail bw m) (hc:Chg S w w') (h1:¬ S b) (h2:∀ q,bw=some q->¬ S q):fP w' b T tail bw m:=by
 obtain⟨wa,cap,hl,hb,hw⟩:=h.blk
 refine⟨⟨wa,cap,hl,(hc.block _ (aC hb) h1).trans hb,λhp=>?_⟩,h.apart,λq e=>Nat.lt_of_lt_of_le (h.low q e) hc.size,h.len,h.cnt,h.val⟩
 obtain⟨q,rest,hq,ha,hr⟩:=hw hp
 exact⟨q,rest,hq,ha,(hc.block _ (h.low q hq) (h2 q hq)).trans hr⟩
set_option maxHeartbeats 4000000 in
theorem Lt (b:Nat) (T:TypeId) (tail:List Value) (bw:Option Nat) (m:dR) (kind:Int) (j x y:Nat) (w:World) (h:fP w b T tail bw m) (hj:j<m.ws.length) (hx:x<18446744073709551616) (hy:y<18446744073709551616) (hcnt:m.c.all+1<1000000000000) :
  Calls Tryz.prog 131 #[.pointer (some ⟨b,0,none⟩),.int .i64 kind,.int .i64 (j:Int),.int .u64 (x:Int),.int .u64 (y:Int)] w λe w'=>e=.returned (.int .u64 ((bA m kind (j:Int) x y).2:Int))/\fP w' b T tail bw (bA m kind (j:Int) x y).1/\Chg (bY b bw) w w':=by
 have hout:gI m (j:Int)=false:=by unfold gI;simp;omega
 obtain⟨wa,cap,hcap,hb,hw⟩:=h.blk
 obtain⟨q,rest,rfl,rfl,hr⟩:=hw (by omega)
 have hap:q≠b:=λe=>h.apart (by rw [e])
 have hlen:=h.len;have hval:=h.val;have hal:=EJ h.cnt;have hlow:=h.low q rfl
 have c0:w.cell? ⟨b,0,none⟩=some (.slice (some ⟨q,0,none⟩) m.ws.length cap):=by rw [aA hb];simp [eQ]
 have c1:w.cell? ⟨b,1,none⟩=some (.int .i64 (m.c.read:Int)):=by rw [aA hb];simp [eQ]
 have c2:w.cell? ⟨b,2,none⟩=some (.int .i64 (m.c.write:Int)):=by rw [aA hb];simp [eQ]
 have c3:w.cell? ⟨b,3,none⟩=some (.int .i64 (m.c.swap:Int)):=by rw [aA hb];simp [eQ]
 have c4:w.cell? ⟨b,4,none⟩=some (.int .i64 (m.c.add:Int)):=by rw [aA hb];simp [eQ]
 have f1:w.frozen? ⟨b,1,none⟩=false:=aB hb 1
 have f2:w.frozen? ⟨b,2,none⟩=false:=aB hb 2
 have f3:w.frozen? ⟨b,3,none⟩=false:=aB hb 3
 have f4:w.frozen? ⟨b,4,none⟩=false:=aB hb 4
 have fq:w.frozen? ⟨q,j,none⟩=false:=aB hr j
 obtain⟨o,ho⟩:∃ o,o=m.ws.getD j 0:=⟨_,rfl⟩
 have cq:w.cell? ⟨q,j,none⟩=some (.int .u64 (o:Int)):=by rw [aA hr,ho];simp [bI,List.getD_eq_getElem?_getD,hj,List.getElem?_append]
 have hol:o<18446744073709551616:=by rw [ho,List.getD_eq_getElem?_getD];simp [hj];exact hval _ (List.getElem_mem hj)
 have hj1:(j:Int)<m.ws.length:=by omega
 have Ho:=Lib.hid ho
 clear ho
 by_cases k0:kind=0
 ·subst k0
  have e1:bA m 0 (j:Int) x y=({ m with c:={ m.c with read:=m.c.read+1 } },o):=by simp [bA,bL,hout,Ho.out]
  have hm:fP (w.setCell ⟨b,1,none⟩ (.int .i64 ((m.c.read:Int)+1))) b T tail (some q) { m with c:={ m.c with read:=m.c.read+1 } }:=by
   refine⟨⟨some ⟨q,0,none⟩,cap,hcap,?_,λ_=>⟨q,rest,rfl,rfl,?_⟩⟩,(λe=>hap (by simpa using e)),(λq2 e=>by cases e;simpa using hlow),hlen,by unfold eO.all at hcnt ⊢;simp only;omega,hval⟩
   ·rw [aG hb];simp [eQ]
   ·rw [aH hap];exact hr
  rw [e1]
  have Hm:=Lib.hid hm
  have Hc:=Lib.hid ((Chg.refl (bY b (some q)) w).setCell (p:=⟨b,1,none⟩) (.inl (.inl rfl)) (.int .i64 ((m.c.read:Int)+1)))
  clear h hb hw hr hm e1 hcnt hap hval hlow hcap hout
  go_enter Tryz.func131,Tryz.ntmps131
  go_wp2
  go_ret
  exact⟨rfl,Hm.out,Hc.out⟩
 by_cases k1:kind=1
 ·subst k1
  have e1:bA m 1 (j:Int) x y=({ ws:=m.ws.set j x,c:={ m.c with write:=m.c.write+1 } },0):=by simp [bA,fJ,hout]
  have hm:fP ((w.setCell ⟨b,2,none⟩ (.int .i64 ((m.c.write:Int)+1))).setCell ⟨q,j,none⟩ (.int .u64 (x:Int))) b T tail (some q) { ws:=m.ws.set j x,c:={ m.c with write:=m.c.write+1 } }:=by
   refine⟨⟨some ⟨q,0,none⟩,cap,by simpa [JK] using hcap,?_,λ_=>⟨q,rest,rfl,rfl,?_⟩⟩,(λe=>hap (by simpa using e)),(λq2 e=>by cases e;simpa using hlow),by simpa using hlen,by unfold eO.all at hcnt ⊢;simp only;omega,?_⟩
   ·rw [aH (Ne.symm hap),aG hb];simp [eQ]
   ·rw [aG (by rw [aH hap];exact hr),AA _ _ _ _ hj]
   ·intro z hz
    rcases List.mem_or_eq_of_mem_set hz with h1|rfl
    ·exact hval z h1
    ·exact hx
  rw [e1]
  have Hm:=Lib.hid hm
  have Hc:=Lib.hid (((Chg.refl (bY b (some q)) w).setCell (p:=⟨b,2,none⟩) (.inl (.inl rfl)) (.int .i64 ((m.c.write:Int)+1))).setCell (p:=⟨q,j,none⟩) (.inl (.inr rfl)) (.int .u64 (x:Int)))
  have g1:(w.setCell ⟨b,2,none⟩ (.int .i64 ((m.c.write:Int)+1))).cell? ⟨q,j,none⟩=some (.int .u64 (o:Int)):=by rw [fH _ (by exact hap)];exact cq
  have g2:(w.setCell ⟨b,2,none⟩ (.int .i64 ((m.c.write:Int)+1))).frozen? ⟨q,j,none⟩=false:=by rw [iK _ (by exact hap)];exact fq
  clear h hb hw hr hm e1 hcnt hval hlow hcap hout k0
  go_enter Tryz.func131,Tryz.ntmps131
  go_wp2
  go_ret
  exact⟨rfl,Hm.out,Hc.out⟩
 by_cases k2:kind=2
 ·subst k2
  have g1:(w.setCell ⟨b,3,none⟩ (.int .i64 ((m.c.swap:Int)+1))).cell? ⟨q,j,none⟩=some (.int .u64 (o:Int)):=by rw [fH _ (by exact hap)];exact cq
  have g2:(w.setCell ⟨b,3,none⟩ (.int .i64 ((m.c.swap:Int)+1))).frozen? ⟨q,j,none⟩=false:=by rw [iK _ (by exact hap)];exact fq
  by_cases hox:o=x
  ·have e1:bA m 2 (j:Int) x y=({ ws:=m.ws.set j y,c:={ m.c with swap:=m.c.swap+1 } },1):=by simp only [bA,vF,hout,Int.toNat_natCast,<-Ho.out,if_pos hox];simp [b01]
   have hm:fP ((w.setCell ⟨b,3,none⟩ (.int .i64 ((m.c.swap:Int)+1))).setCell ⟨q,j,none⟩ (.int .u64 (y:Int))) b T tail (some q) { ws:=m.ws.set j y,c:={ m.c with swap:=m.c.swap+1 } }:=by
    refine⟨⟨some ⟨q,0,none⟩,cap,by simpa [JK] using hcap,?_,λ_=>⟨q,rest,rfl,rfl,?_⟩⟩,(λe=>hap (by simpa using e)),(λq2 e=>by cases e;simpa using hlow),by simpa using hlen,by unfold eO.all at hcnt ⊢;simp only;omega,?_⟩
    ·rw [aH (Ne.symm hap),aG hb];simp [eQ]
    ·rw [aG (by rw [aH hap];exact hr),AA _ _ _ _ hj]
    ·intro z hz
     rcases List.mem_or_eq_of_mem_set hz with h1|rfl
     ·exact hval z h1
     ·exact hy
   rw [e1]
   have Hm:=Lib.hid hm
   have Hc:=Lib.hid (((Chg.refl (bY b (some q)) w).setCell (p:=⟨b,3,none⟩) (.inl (.inl rfl)) (.int .i64 ((m.c.swap:Int)+1))).setCell (p:=⟨q,j,none⟩) (.inl (.inr rfl)) (.int .u64 (y:Int)))
   subst hox
   clear h hb hw hr hm e1 hcnt hval hlow hcap hout k0 k1 Ho
   go_enter Tryz.func131,Tryz.ntmps131
   go_wp2
   go_ret
   exact⟨rfl,Hm.out,Hc.out⟩
  ·have e1:bA m 2 (j:Int) x y=({ m with c:={ m.c with swap:=m.c.swap+1 } },0):=by simp only [bA,vF,hout,Int.toNat_natCast,<-Ho.out,if_neg hox];simp [b01]
   have hm:fP (w.setCell ⟨b,3,none⟩ (.int .i64 ((m.c.swap:Int)+1))) b T tail (some q) { m with c:={ m.c with swap:=m.c.swap+1 } }:=by
    refine⟨⟨some ⟨q,0,none⟩,cap,hcap,?_,λ_=>⟨q,rest,rfl,rfl,?_⟩⟩,(λe=>hap (by simpa using e)),(λq2 e=>by cases e;simpa using hlow),hlen,by unfold eO.all at hcnt ⊢;simp only;omega,hval⟩
    ·rw [aG hb];simp [eQ]
    ·rw [aH hap];exact hr
   rw [e1]
   have Hm:=Lib.hid hm
   have Hc:=Lib.hid ((Chg.refl (bY b (some q)) w).setCell (p:=⟨b,3,none⟩) (.inl (.inl rfl)) (.int .i64 ((m.c.swap:Int)+1)))
   have hne:¬ ((o:Int)=(x:Int)):=by omega
   clear h hb hw hr hm e1 hcnt hap hval hlow hcap hout k0 k1 hox
   go_enter Tryz.func131,Tryz.ntmps131
   go_wp2
   go_ret
   exact⟨rfl,Hm.out,Hc.out⟩
 ·have hwr:IntKind.u64.wrap ((o:Int)+x)=(((o+x) % 18446744073709551616:Nat):Int):=by simp [IntKind.wrap,IntKind.bits,IntKind.signed]
  have e1:bA m kind (j:Int) x y=({ ws:=m.ws.set j ((o+x) % 18446744073709551616),c:={ m.c with add:=m.c.add+1 } },o):=by simp only [bA,yA,hout,if_neg k0,if_neg k1,if_neg k2];simp [Ho.out]
  have hm:fP ((w.setCell ⟨b,4,none⟩ (.int .i64 ((m.c.add:Int)+1))).setCell ⟨q,j,none⟩ (.int .u64 (IntKind.u64.wrap ((o:Int)+x)))) b T tail (some q) { ws:=m.ws.set j ((o+x) % 18446744073709551616),c:={ m.c with add:=m.c.add+1 } }:=by
   refine⟨⟨some ⟨q,0,none⟩,cap,by simpa [JK] using hcap,?_,λ_=>⟨q,rest,rfl,rfl,?_⟩⟩,(λe=>hap (by simpa using e)),(λq2 e=>by cases e;simpa using hlow),by simpa using hlen,by unfold eO.all at hcnt ⊢;simp only;omega,?_⟩
   ·rw [aH (Ne.symm hap),aG hb];simp [eQ]
   ·rw [aG (by rw [aH hap];exact hr),hwr,AA _ _ _ _ hj]
   ·intro z hz
    rcases List.mem_or_eq_of_mem_set hz with h1|rfl
    ·exact hval z h1
    ·exact Nat.mod_lt _ (by decide)
  rw [e1]
  have Hm:=Lib.hid hm
  have Hc:=Lib.hid (((Chg.refl (bY b (some q)) w).setCell (p:=⟨b,4,none⟩) (.inl (.inl rfl)) (.int .i64 ((m.c.add:Int)+1))).setCell (p:=⟨q,j,none⟩) (.inl (.inr rfl)) (.int .u64 (IntKind.u64.wrap ((o:Int)+x))))
  have g1:(w.setCell ⟨b,4,none⟩ (.int .i64 ((m.c.add:Int)+1))).cell? ⟨q,j,none⟩=some (.int .u64 (o:Int)):=by rw [fH _ (by exact hap)];exact cq
  have g2:(w.setCell ⟨b,4,none⟩ (.int .i64 ((m.c.add:Int)+1))).frozen? ⟨q,j,none⟩=false:=by rw [iK _ (by exact hap)];exact fq
  have a0:(kind == 0)=false:=by simpa using k0
  have a1:(kind == 1)=false:=by simpa using k1
  have a2:(kind == 2)=false:=by simpa using k2
  clear h hb hw hr hm e1 hcnt hval hlow hcap hout k0 k1 k2 hwr
  go_enter Tryz.func131,Tryz.ntmps131
  go_wp2
  go_ret
  exact⟨rfl,Hm.out,Hc.out⟩
theorem Ka (b:Nat) (T:TypeId) (tail:List Value) (bw:Option Nat) (m:dR) (kind a:Int) (x y:Nat) (w:World) (h:fP w b T tail bw m) (ho:gI m a=true) (hcnt:m.c.all+1<1000000000000) :
  Calls Tryz.prog 131 #[.pointer (some ⟨b,0,none⟩),.int .i64 kind,.int .i64 a,.int .u64 (x:Int),.int .u64 (y:Int)] w λe w'=>e=.returned (.int .u64 0)/\fP w' b T tail bw m.fault/\Chg (bY b bw) w w':=by
 obtain⟨wa,cap,hcap,hb,hw⟩:=h.blk
 have hap:=h.apart;have hlow:=h.low
 have hlen:=h.len;have hval:=h.val;have hal:=EJ h.cnt
 have c0:w.cell? ⟨b,0,none⟩=some (.slice wa m.ws.length cap):=by rw [aA hb];simp [eQ]
 have c5:w.cell? ⟨b,5,none⟩=some (.int .i64 (m.c.fault:Int)):=by rw [aA hb];simp [eQ]
 have f5:w.frozen? ⟨b,5,none⟩=false:=aB hb 5
 have hm:fP (w.setCell ⟨b,5,none⟩ (.int .i64 ((m.c.fault:Int)+1))) b T tail bw m.fault:=by
  refine⟨⟨wa,cap,hcap,?_,λhp=>?_⟩,hap,(λq e=>by have:=hlow q e;simpa using this),hlen,by unfold dR.fault eO.all at *;simp only;omega,hval⟩
  ·rw [aG hb];simp [eQ,dR.fault]
  ·obtain⟨q,rest,hq,ha,hr⟩:=hw hp
   exact⟨q,rest,hq,ha,by rw [aH (by rintro rfl;exact hap hq)];exact hr⟩
 have Hm:=Lib.hid hm
 have Hc:=Lib.hid ((Chg.refl (bY b bw) w).setCell (p:=⟨b,5,none⟩) (.inl (.inl rfl)) (.int .i64 ((m.c.fault:Int)+1)))
 have ho2:=YY ho
 clear h hb hw hm hcnt hap hval hlow hcap ho
 by_cases h1:a<0
 ·clear ho2
  go_enter Tryz.func131,Tryz.ntmps131
  go_wp2
  go_ret
  exact⟨rfl,Hm.out,Hc.out⟩
 ·have h2:(m.ws.length:Int)<=a:=by omega
  clear ho2
  go_enter Tryz.func131,Tryz.ntmps131
  go_wp2
  go_ret
  exact⟨rfl,Hm.out,Hc.out⟩
theorem Iq (b:Nat) (T:TypeId) (tail:List Value) (bw:Option Nat) (m:dR) (kind a:Int) (x y:Nat) (w:World) (h:fP w b T tail bw m) (hx:x<18446744073709551616) (hy:y<18446744073709551616) (hcnt:m.c.all+1<1000000000000) :
  Calls Tryz.prog 131 #[.pointer (some ⟨b,0,none⟩),.int .i64 kind,.int .i64 a,.int .u64 (x:Int),.int .u64 (y:Int)] w λe w'=>e=.returned (.int .u64 ((bA m kind a x y).2:Int))/\fP w' b T tail bw (bA m kind a x y).1/\Chg (bY b bw) w w':=by
 cases ho:gI m a with
 | true=>
  have e1:bA m kind a x y=(m.fault,0):=by
   unfold bA bL fJ vF yA
   simp only [ho,if_true,b01]
   repeat' (split<;>try rfl)
  rw [e1]
  exact Ka b T tail bw m kind a x y w h ho hcnt
 | false=>
  obtain⟨j,rfl,ht,hj⟩:=zY ho
  exact Lt b T tail bw m kind j x y w h hj hx hy hcnt
theorem Pz (a:Option Addr) (c:Nat) (ws:List Nat) (w:World) (hs:cB w a ws.length 1 (fE ws)) (hn:ws.length<=1000000000) (hc:a=none->c=0) :
  Calls Tryz.prog 38 #[.slice a ws.length c] w λe w'=>∃ v,e=.returned (.agg #[v,.int .i64 0,.int .i64 0,.int .i64 0,.int .i64 0,.int .i64 0])/\w'.ownsRow (w.heap.size+1) 46 1 v ws.length (ws.map bI)/\Below w.heap.size w w':=by
 have Hs:=Lib.hid hs
 obtain⟨i0,hi,hz0,hz1,hz2⟩:=info_parts iR
 obtain⟨w0,hw0⟩:∃ w0,w0=(w.alloc (.cells #[.slice none 0 0,.int .i64 0,.int .i64 0,.int .i64 0,.int .i64 0,.int .i64 0] 88)).alloc (.cells #[] 46):=⟨_,rfl⟩
 have hgr:Below w.heap.size w w0:=by rw [hw0];exact Gr.alloc (Gr.new w _) _
 have hsz:w0.heap.size=w.heap.size+2:=by rw [hw0];simp
 have hblk:w0.heap[w.heap.size]?=some (.cells #[.slice none 0 0,.int .i64 0,.int .i64 0,.int .i64 0,.int .i64 0,.int .i64 0] 88 (0,0)):=by
  rw [hw0,Below.heap_alloc _ _ _ (by simp)];exact heap_alloc_new _ _
 have hown:w0.ownsRow (w.heap.size+1) 46 1 (.slice (some ⟨w.heap.size+1,0,none⟩) 0 0) 0 []:=by
  rw [hw0]
  have:=World.ownsRow_made (e:=46) (size:=1) (w.alloc (.cells #[.slice none 0 0,.int .i64 0,.int .i64 0,.int .i64 0,.int .i64 0,.int .i64 0] 88)) #[] 0 (base:=w.heap.size+1) (by simp) (Nat.zero_le _) rfl
  rw [World.size_alloc] at this;exact this
 have Hown:=Lib.hid hown;have Hblk:=Lib.hid hblk;have Hgr:=Lib.hid hgr;have Hsz:=Lib.hid hsz;have Hw0:=Lib.hid hw0
 clear hs hgr hsz hblk hown hw0
 cases a with
 | none=>
  obtain hn0:ws.length=0:=by
   rcases Nat.eq_zero_or_pos ws.length with h|h
   ·exact h
   ·obtain⟨b,off,h0,_⟩:=Hs.out.2 0 h;cases h0
  obtain rfl:ws=[]:=List.eq_nil_of_length_eq_zero hn0
  obtain rfl:=hc rfl
  clear hc hn0
  go_enter Tryz.func38,Tryz.ntmps38
  go_wp2
  refine bodyPost_ret (v:=.agg #[.slice (some ⟨w.heap.size+1,0,none⟩) 0 0,.int .i64 0,.int .i64 0,.int .i64 0,.int .i64 0,.int .i64 0]) (by simp [results,Tryz.results38 ,go_sem]) rfl ⟨_,rfl,?_,Gr.alloc (Gr.new w _) _⟩
  have:=World.ownsRow_made (e:=46) (size:=1) (w.alloc (.cells #[.slice (some ⟨w.heap.size+1,0,none⟩) 0 0,.int .i64 0,.int .i64 0,.int .i64 0,.int .i64 0,.int .i64 0] 88)) #[] 0 (base:=w.heap.size+1) (by simp) (Nat.zero_le _) rfl
  rw [World.size_alloc] at this;exact this
 | some ad=>
  clear hc
  have hnew:∀ j u,(ws.map bI)[j]?=some u->w0.cell? (ad.add j)=some u:=by
   intro j u hu
   simp only [List.getElem?_map,Option.map_eq_some_iff] at hu
   obtain⟨i,hi2,rfl⟩:=hu
   rw [List.getElem?_eq_some_iff] at hi2
   obtain⟨hj,rfl⟩:=hi2
   obtain⟨b,off,h0,hb,hcell⟩:=(Hs.out.grown Hgr.out).2 j hj
   cases h0
   have:=hcell 0 (by omega)
   rw [Nat.mul_one,Nat.add_zero] at this
   have h8:fE ws j 0=bI ws[j]:=by simp [fE,List.getD_eq_getElem?_getD,hj]
   rw [h8] at this
   rw [<-this]
   unfold Addr.add
   split
   ·rename_i h;rw [h];rfl
   ·rfl
  have Hnew:=Lib.hid hnew
  clear hnew
  go_enter Tryz.func38,Tryz.ntmps38
  go_wp2_with (at_builtin;rw [<-Hw0.out];refine wpList_append_own _ rfl (.tmp 3) (.tmp 4) 28 rfl (w.heap.size+1) 46 i0 (.int .u64 0) 1 8 Tryz.underlying28 hi hz0 hz1 hz2 rfl (by decide) (.slice (some ⟨w.heap.size+1,0,none⟩) 0 0) 0 [] rfl Hown.out ad ws.length c (ws.map bI) rfl ?c1 Hnew.out ?c2 ?c3 ?c4 ?c5 ?_)
  case c1=>simp
  case c2=>
   intro u hu
   obtain⟨j,_,rfl⟩:=List.mem_map.1 hu
   rfl
  case c3=>unfold maxLen;omega
  case c4=>omega
  case c5=>have:=Hsz.out;omega
  intro v w1 hown1 hgrow hnil
  obtain⟨a',c',rfl⟩:=dX hown1
  have hb1:w1.heap[w.heap.size]?=some (.cells #[.slice none 0 0,.int .i64 0,.int .i64 0,.int .i64 0,.int .i64 0,.int .i64 0] 88 (0,0)):=by
   rw [hgrow.block _ (by have:=Hsz.out;omega) (by simp [Value.ownBlock])];exact Hblk.out
  have k0:w1.cell? ⟨w.heap.size,0,none⟩=some (.slice none 0 0):=by rw [aA hb1];rfl
  have k1:w1.cell? ⟨w.heap.size,1,none⟩=some (.int .i64 0):=by rw [aA hb1];rfl
  have k2:w1.cell? ⟨w.heap.size,2,none⟩=some (.int .i64 0):=by rw [aA hb1];rfl
  have k3:w1.cell? ⟨w.heap.size,3,none⟩=some (.int .i64 0):=by rw [aA hb1];rfl
  have k4:w1.cell? ⟨w.heap.size,4,none⟩=some (.int .i64 0):=by rw [aA hb1];rfl
  have k5:w1.cell? ⟨w.heap.size,5,none⟩=some (.int .i64 0):=by rw [aA hb1];rfl
  have f0:w1.frozen? ⟨w.heap.size,0,none⟩=false:=aB hb1 0
  have f1:w1.frozen? ⟨w.heap.size,1,none⟩=false:=aB hb1 1
  have f2:w1.frozen? ⟨w.heap.size,2,none⟩=false:=aB hb1 2
  have f3:w1.frozen? ⟨w.heap.size,3,none⟩=false:=aB hb1 3
  have f4:w1.frozen? ⟨w.heap.size,4,none⟩=false:=aB hb1 4
  have f5:w1.frozen? ⟨w.heap.size,5,none⟩=false:=aB hb1 5
  have Hg:=Lib.hid hgrow;have Ho:=Lib.hid hown1
  clear hgrow hown1 hnil hb1
  go_wp2
  refine bodyPost_ret (v:=.agg #[.slice a' ws.length c',.int .i64 0,.int .i64 0,.int .i64 0,.int .i64 0,.int .i64 0]) (by simp [results,Tryz.results38 ,go_sem, *]) rfl ⟨_,rfl,?_,?_⟩
  ·refine bB (S:=λb=>b=w.heap.size) Ho.out ?_ (λb hb e=>by have:=(Ho.out.lt b hb).1;omega)
   iterate 6 refine Chg.setCell ?_ (by exact .inl rfl) _
   exact Chg.refl _ _
  ·have h1:Below w.heap.size w w1:=Hgr.out.grown Hg.out (by have:=Hsz.out;omega) (λk hk=>by simp only [Value.ownBlock,Option.some.injEq] at hk;omega)
   iterate 6 refine Below.setCell ?_ (by exact Nat.le_refl _) _
   exact h1
end
section
open Go.RowKit
def RV (v:Value):Option (DataW Value×List MemPlace):=some (.held v,[])
def upd (M:Int->Value) (k:Int) (v:Value):Int->Value:=λx=>if x=k then v else M x
theorem upd_same (M:Int->Value) (k:Int) (v:Value):upd M k v k=v:=by simp [upd]
theorem lK (M:Int->Value) {k x:Int} (v:Value) (h:x≠k):upd M k v x=M x:=by simp [upd,h]
def MapAt (w:World) (b n:Nat) (M:Int->Value):Prop:=
 ∃ D:DataW Value,w.ownsMap Tryz.prog 3 RV b n D/\Maps.IsMap D/\∀ key,D.atKey (.int .i64 key) (.held (.slice none 0 0))=.held (M key)
theorem WG:Maps.Keyed Tryz.prog 3:=Maps.int_keyed Tryz.underlying3
theorem Gq {key:Int} (hw:(Lit.int .i64 key).wf=true):keyOf Tryz.prog 3 (.int .i64 key)=some (.int .i64 key):=Maps.keyOf_int_mk Tryz.underlying3 hw
theorem Ic (w:World):(zeroValue 24).run Tryz.prog w=.ok (.slice none 0 0) w:=by kernel_rfl
theorem MapAt.made (w:World):MapAt (w.alloc (.map #[] 0)) w.heap.size 0 (λ_=>.slice none 0 0):=
 ⟨.map [],World.ownsMap_made _ _ _ _,Maps.isMap_empty,λ_=>rfl⟩
theorem MapAt.lt {w:World} {b n:Nat} {M:Int->Value} (h:MapAt w b n M):b<w.heap.size:=by obtain⟨D,h1,_⟩:=h;exact h1.lt
theorem MapAt.mono {w:World} {b n n':Nat} {M:Int->Value} (h:MapAt w b n M) (hn:n<=n'):MapAt w b n' M:=by obtain⟨D,h1,h2⟩:=h;exact⟨D,h1.mono hn,h2⟩
theorem MapAt.block {w w':World} {b n:Nat} {M:Int->Value} (h:MapAt w b n M) (hb:w'.heap[b]?=w.heap[b]?):MapAt w' b n M:=by
 obtain⟨D,⟨es,clock,h1,h3⟩,h2⟩:=h
 exact⟨D,⟨es,clock,hb.trans h1,h3⟩,h2⟩
theorem MapAt.look {w:World} {b n:Nat} {M:Int->Value} (h:MapAt w b n M) {key:Int} (hw:(Lit.int .i64 key).wf=true) :
  (Instr.lookup 118 (.map (some b)) (.int .i64 key) false).run Tryz.prog w=.ok (M key) w:=by
 obtain⟨D,h1,_,h2⟩:=h
 obtain⟨v,ps,hrun,hv⟩:=h1.lookup WG Tryz.underlying118 (Ic w) (zd:=.held (.slice none 0 0)) (zp:=[]) rfl (Gq hw)
 rw [h2] at hv
 simp only [RV,Option.some.injEq,Prod.mk.injEq,DataW.held.injEq] at hv
 rw [hrun,hv.1]
theorem Dv {key:Int}:WideAt.IsKeyLit (.int .i64 key):=by trivial
theorem MapAt.put {w:World} {b n:Nat} {M:Int->Value} (h:MapAt w b n M) (hn:n<maxLen) {key:Int} (hw:(Lit.int .i64 key).wf=true) (val:Value) :
  ∃ w',(Instr.mapUpdate 118 (.map (some b)) (.int .i64 key) val).run Tryz.prog w=.ok () w'/\MapAt w' b (n+1) (upd M key val)/\w.grownBy w' (some b):=by
 obtain⟨D,h1,h3,h2⟩:=h
 obtain⟨w',hrun,h4,h5⟩:=h1.update WG Tryz.underlying118 hn (Gq hw) (val:=val) (d:=.held val) (ps:=[]) rfl
 refine⟨w',hrun,⟨_,h4,h3.put _ _,λk=>?_⟩,h5⟩
 by_cases hk:k=key
 ·subst hk
  rw [Maps.atKey_put_same h3 Dv,upd_same]
 ·rw [Maps.atKey_put_other (by simpa using hk),lK _ _ hk,h2]
theorem AU (w:World) {ops:Array Oper} {rest:List Oper} {o:Oper} {a:Act} {Q:Exit->Act->World->Prop}
  (hg:o.guard=none) (m x v:Operand) (hop:o.op=Op.mapUpdate 118 m x v) (b n:Nat) (M:Int->Value)
  (hm:a.eval m=.map (some b)) (hown:MapAt w b n M) (hn:n<maxLen) (key:Int) (val:Value) (hx:a.eval x=.int .i64 key) (hv:a.eval v=val) (hw:(Lit.int .i64 key).wf=true)
  (hK:∀ w',MapAt w' b (n+1) (upd M key val)->w.grownBy w' (some b)->wpList Tryz.prog ops Q rest (a.put o.dst undef) w') :
  wpList Tryz.prog ops Q (o::rest) a w:=by
 refine wpList_plain hg λK' hK'=>?_
 obtain⟨w',hrun,r1,r2⟩:=hown.put hn hw val
 unfold Oper.wp
 simp [execOp,hop,hm,hx,hv,hrun,Result.andThen]
 exact hK' _ _ (hK w' r1 r2)
end
section
open Go.RowKit
structure aD where
  thread:Int
  obj:Int
  kind:Int
  a:Nat
  b:Nat
  c:Nat
def iX (l:List aD) (j f:Nat):Value:=
  let x:=l.getD j ⟨0,0,0,0,0,0⟩
  if f=0 then .int .i64 x.thread else if f=1 then .int .i64 x.obj else if f=2 then .int .i64 x.kind else if f=3 then .int .u64 (x.a:Int) else if f=4 then .int .u64 (x.b:Int) else .int .u64 (x.c:Int)
def Jz (l:List Nat) (j _f:Nat):Value:=.int .i64 ((l.getD j 0:Nat):Int)
def qOf (calls:List aD) (k:Nat) (p:Int):List Nat:=(List.range k).filter λi=>decide ((calls.getD i ⟨0,0,0,0,0,0⟩).thread=p)
theorem WI (calls:List aD) (k:Nat) (p:Int):qOf calls (k+1) p=qOf calls k p++(if (calls.getD k ⟨0,0,0,0,0,0⟩).thread=p then [k] else []):=by
  unfold qOf
  rw [List.range_succ,List.filter_append]
  congr 1
  simp [List.filter_cons]
theorem ZI (calls:List aD) (k:Nat) (p:Int):(qOf calls k p).length<=k:=by
  unfold qOf
  exact Nat.le_trans (List.length_filter_le _ _) (by simp)
structure iT (w:World) (Z:Nat->Prop) (bl bm n:Nat) (M:Int->Value) (q:Int->List Nat) (left:Int):Prop where
  line:w.heap[bl]?=some (.cells #[.map (some bm),.int .i64 left] 120 (0,0))
  map:MapAt w bm n M
  rows:∀ p,∃ a c,M p=.slice a (q p).length c/\(q p).length<=c/\cB w a (q p).length 1 (Jz (q p))/\(∀ b off,a=some ⟨b,off,none⟩->b≠bl/\b≠bm/\Z b)
theorem Sk (Z:Nat->Prop) (bl bm n:Nat) (M:Int->Value) (q:Int->List Nat) (left p:Int) (w:World) (h:iT w Z bl bm n M q left) (hw:(Lit.int .i64 p).wf=true) (hq:(q p).length=0) :
    Calls Tryz.prog 48 #[.pointer (some ⟨bl,0,none⟩),.int .i64 p] w λe w'=>e=.returned (.tuple #[.int .i64 0,.bool false])/\w=w':=by
  have hl0:w.cell? ⟨bl,0,none⟩=some (.map (some bm)):=by rw [aA h.line];rfl
  obtain⟨a,c,hM,hcap,hs,_⟩:=h.rows p
  have hlk:=h.map.look hw
  rw [hq] at hM
  rw [hM] at hlk
  clear h hM hs hq hcap
  go_enter Tryz.func48,Tryz.ntmps48
  go_wp2
  go_ret2
  exact⟨rfl,rfl⟩
theorem Aa (Z:Nat->Prop) (bl bm n:Nat) (M:Int->Value) (q:Int->List Nat) (left p:Int) (w:World) (h:iT w Z bl bm n M q left) (hw:(Lit.int .i64 p).wf=true) (i:Nat) (r:List Nat) (hq:q p=i::r) :
    Calls Tryz.prog 48 #[.pointer (some ⟨bl,0,none⟩),.int .i64 p] w λe w'=>e=.returned (.tuple #[.int .i64 (i:Int),.bool true])/\w=w':=by
  have hl0:w.cell? ⟨bl,0,none⟩=some (.map (some bm)):=by rw [aA h.line];rfl
  obtain⟨a,c,hM,hcap,hs,_⟩:=h.rows p
  have hlk:=h.map.look hw
  obtain⟨m,hm⟩:∃ m,m=r.length:=⟨_,rfl⟩
  have hlen:(q p).length=m+1:=by rw [hq,hm];rfl
  obtain⟨b,off,rfl,_,hc⟩:=hs.2 0 (by omega)
  have h0:w.cell? ⟨b,off,none⟩=some (.int .i64 (i:Int)):=by have:=hc 0 (by omega);simpa [Jz,hq] using this
  have hmx:=hs.1
  rw [hlen] at hM hmx
  unfold maxLen at hmx
  rw [hM] at hlk
  clear h hM hs hq hc hlen hm hcap
  go_enter Tryz.func48,Tryz.ntmps48
  go_wp2
  go_ret2
  exact⟨rfl,rfl⟩
def FT (q:Int->List Nat) (p:Int):Int->List Nat:=λx=>if x=p then (q x).tail else q x
theorem YN (Z:Nat->Prop) (bl bm n:Nat) (M:Int->Value) (q:Int->List Nat) (left p:Int) (w:World) (h:iT w Z bl bm n M q left) (hn:n<maxLen) (hw:(Lit.int .i64 p).wf=true) (i:Nat) (r:List Nat) (hq:q p=i::r)
    (hleft:-1000000<=left) (YG:left<=1000000) :
    Calls Tryz.prog 50 #[.pointer (some ⟨bl,0,none⟩),.int .i64 p] w λe w'=>e=.returned (.int .i64 0)/\Chg (λb=>b=bl∨b=bm) w w'/\
      ∃ M',iT w' Z bl bm (n+1) M' (FT q p) (left - 1):=by
  have H:=Lib.hid (Aa Z bl bm n M q left p w h hw i r hq)
  have Hh:=Lib.hid h
  have hl0:w.cell? ⟨bl,0,none⟩=some (.map (some bm)):=by rw [aA h.line];rfl
  have hlkd:=(MapAt.block (w':=w.drew) h.map rfl).look hw
  have hne:bl≠bm:=by
    rintro rfl
    obtain⟨D,⟨es,clock,h1,_⟩,_⟩:=h.map
    rw [h.line] at h1;cases h1
  obtain⟨a,c,hM,hcap,hs,hab⟩:=h.rows p
  have hlk:=h.map.look hw
  obtain⟨m,hm⟩:∃ m,m=r.length:=⟨_,rfl⟩
  have hlen:(q p).length=m+1:=by rw [hq,hm];rfl
  obtain⟨b,off,rfl,_,hc⟩:=hs.2 0 (by omega)
  have hmx:=hs.1
  rw [hlen] at hM hmx hcap
  unfold maxLen at hmx
  rw [hM] at hlk hlkd
  have hcap1:(1:Int)<=(m:Int)+1:=by omega
  have Hs:=Lib.hid hs;have Hm:=Lib.hid hm;have Hab:=Lib.hid hab;have Hlen:=Lib.hid hlen;have Hq:=Lib.hid hq;have HM:=Lib.hid hM
  clear h hs hq hc hlen hm hab hM
  by_cases hc1:c=1
  all_goals
    go_enter Tryz.func50,Tryz.ntmps50
    go_wp2_with (go_at_call 48;refine(H.out).mono ?_;rintro e w' ⟨rfl,rfl⟩)
    go_still_tail 12,(by kernel_rfl)
    change wpList _ _ _ _ _ w.drew
    go_wp2_with (at_mapUpdate;refine AU _ rfl _ _ _ rfl bm n M rfl (MapAt.block (w:=w) Hh.out.map rfl) hn p _ rfl rfl hw ?_)
    intro w2 hmap hgrow
    have hb2:w2.heap[bl]?=some (.cells #[.map (some bm),.int .i64 left] 120 (0,0)):=by rw [hgrow.block bl (aC Hh.out.line) (by simpa using hne)];exact Hh.out.line
    have hl1:w2.cell? ⟨bl,1,none⟩=some (.int .i64 left):=by rw [aA hb2];rfl
    have hf1:w2.frozen? ⟨bl,1,none⟩=false:=aB hb2 1
    have Hb2:=Lib.hid hb2;have Hmap:=Lib.hid hmap;have Hgrow:=Lib.hid hgrow
    clear hb2 hmap hgrow hlk hlkd
    go_wp2
    go_ret
    have hchg:Chg (λb=>b=bl∨b=bm) w (w2.setCell ⟨bl,1,none⟩ (.int .i64 (left - 1))):=((Chg.refl _ w).drew.grown Hgrow.out (λk hk=>by cases hk;exact .inl (.inr rfl))).setCell (.inl (.inl rfl)) _
    refine⟨rfl,hchg,_,⟨aG Hb2.out 1 (.int .i64 (left - 1)),Hmap.out.block (aH hne.symm 1 _),?_⟩⟩
    · intro x
      by_cases hx:x=p
      · subst hx
        rw [upd_same]
        have htl:FT q x x=r:=by simp [FT,Hq.out]
        have hrl:r.length=m:=Hm.out.symm
        rw [htl,hrl]
        refine⟨_,_,rfl,by omega,⟨by unfold maxLen;omega,λj hj=>?_⟩,?_⟩
        · obtain⟨b',off',e,hbs,hc⟩:=(Hs.out.chg hchg (λb' off' e=>by have:=Hab.out b' off' e;rintro(h|h);exact this.1 h;exact this.2.1 h)).2 (j+1) (by rw [Hlen.out];omega)
          cases e
          first
            | (refine⟨b,off+1,rfl,hbs,λf hf=>?_⟩
               obtain rfl:f=0:=by omega
               have:=hc 0 (by omega)
               rw [show off+1+(j*1+0)=off+((j+1)*1+0) by omega,this]
               simp [Jz,Hq.out])
            | omega
        · intro b' off' e
          cases e
          exact Hab.out b off rfl
      · rw [lK _ _ hx]
        have htl:FT q p x=q x:=by simp [FT,hx]
        rw [htl]
        obtain⟨a',c',h1,h2,h3,h4⟩:=Hh.out.rows x
        exact⟨a',c',h1,h2,h3.chg hchg (λb' off' e=>by have:=h4 b' off' e;rintro(h|h);exact this.1 h;exact this.2.1 h),h4⟩
end
end Go.Proofs.YtfkokppncipgnaaGreat
