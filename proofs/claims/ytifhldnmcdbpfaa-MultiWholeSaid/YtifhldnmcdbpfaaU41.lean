/- Layer 6: the walk of roundelayplain.Rows. -/
import Derived.Test.YtifhldnmcdbpfaaU40
import Derived.Test.YtifhldnmcdbpfaaU22
import Derived.Test.YtifhldnmcdbpfaaU15
set_option maxRecDepth 100000
set_option linter.unusedVariables false
set_option linter.unusedSimpArgs false
set_option linter.unnecessarySimpa false
namespace Go.Proofs.Ytifhldnmcdbpfaa
open Go.RowKit
theorem fB.keyAt {X:Nat->Prop} {B:Nat} {w wr:World} {g:Nat} {en ec:Nat} {wv:Value} {ers:List (Value×Value)} {r:gT} (h:fB X B w (.slice (some ⟨g,0,none⟩) en ec) wv ers r) (hn:en=r.evs.length) {k:Nat} (hk:k<en) (hb:Below w.heap.size w wr) {ka:Option Addr} {kn kc:Nat} (hc:wr.cell? ⟨g,k*8+7,none⟩=some (.slice ka kn kc)) :
  kn=(aB r.evs k).key.length/\aW w ka (aB r.evs k).key.length 1 (iY (aB r.evs k).key):=by
 obtain⟨g',hgg,hg,hev⟩:=h.event hn (by omega)
 cases hgg
 obtain⟨SY,TB,hkv,_,hks,_⟩:=(h.ans k (by rw [<-hn];exact hk)).2
 have:wr.cell? ⟨g,k*8+7,none⟩=some (ers.getD k sI).2:=by rw [hb.cell hg,hev k 7 hk (by omega)];rfl
 rw [this,hkv] at hc
 simp only [Option.some.injEq,Value.slice.injEq] at hc
 obtain⟨rfl,h2,_⟩:=hc
 exact⟨h2.symm,hks⟩
def fF (l:List Int):Array Value:=(l.map (Value.int .i64)).toArray
set_option maxHeartbeats 8000000 in
theorem FW {X Y:Nat->Prop} {B:Nat} (w:World) (calls:List aF) (n:Nat) (ca ea va:Option Addr) (cc en ec vn vc:Nat) (ers:List (Value×Value)) (rp:gT) (hrep:fB X B w (.slice ea en ec) (.slice va vn vc) ers rp) (hen:en=rp.evs.length) (hlen:rp.evs.length<1000000) (hc:iX Y w ca calls) (hg:mW calls n rp) :
  Calls Try.prog 33 #[jL (.slice ea en ec) (.slice va vn vc) rp,.slice ca calls.length cc,.int .i64 (n:Int)] w λe w'=>e=.returned (.bool true)/\Below w.heap.size w w':=by
 obtain⟨wa,hwa⟩:∃ wa,wa=((w.alloc (.cells #[.slice ea en ec,.slice va vn vc,.int .i64 (rp.c.read:Int),.int .i64 (rp.c.write:Int),.int .i64 (rp.c.swap:Int),.int .i64 (rp.c.add:Int),.int .i64 (rp.c.fault:Int),.int .i64 (rp.ticks:Int),.int .i64 (rp.idle:Int)] 32)).alloc (.cells (Array.replicate n (Value.int .i64 0)) 3)).alloc (.cells (Array.replicate n (Value.int .i64 0)) 3):=⟨_,rfl⟩
 have hn1:=hg.n1;have hn16:=hg.n16
 have hmk:=GU n (n:Int) rfl (by omega)
 have hcm:=hc.sl.1
 unfold maxLen at hcm
 have henl:en<=9223372036854775807:=by omega
 have i1:¬ (n:Int)<1:=by omega
 have i2:¬ (16:Int)<(n:Int):=by omega
 have Hrep:=Lib.hid hrep;have Hen:=Lib.hid hen;have Hg:=Lib.hid hg;have Hwa:=Lib.hid hwa;have Hc:=Lib.hid hc
 clear hrep hen hg hwa hlen hc hn1 hn16
 unfold jL
 go_enter Try.func33,Try.ntmps33
 go_wp2_with fail
 rw [<-Hwa.out]
 go_loopw [9,27] (λsv i wr=>∃ k:Nat,k<=en/\i=.int .i64 k/\sv=.int .i64 ((((rp.evs.take k).map (·.steps)).sum:Nat):Int)/\Below w.heap.size w wr/\wr.heap[w.heap.size]?=some (.cells #[.slice ea en ec,.slice va vn vc,.int .i64 (rp.c.read:Int),.int .i64 (rp.c.write:Int),.int .i64 (rp.c.swap:Int),.int .i64 (rp.c.add:Int),.int .i64 (rp.c.fault:Int),.int .i64 (rp.ticks:Int),.int .i64 (rp.idle:Int)] 32 (0,0))/\
  wr.heap[w.heap.size+1]?=some (.cells (fF (eG rp.evs calls n k)) 3 (0,0))/\wr.heap[w.heap.size+2]?=some (.cells (fF (iA rp.evs calls n k)) 3 (0,0))) (λ_ i _=>en - (intOf i).toNat)
 case atStart=>
  refine⟨0,Nat.zero_le _,rfl,by rw [List.take_zero];rfl,by rw [Hwa.out];exact Gr.alloc (Gr.alloc (Gr.new _ _) _) _,?_,?_,?_⟩
  ·rw [Hwa.out,Below.heap_alloc _ _ _ (by simp;omega),Below.heap_alloc _ _ _ (by simp)];exact heap_alloc_new _ _
  ·rw [Hwa.out,Below.heap_alloc _ _ _ (by simp)]
   have:=heap_alloc_new (w.alloc (.cells #[.slice ea en ec,.slice va vn vc,.int .i64 (rp.c.read:Int),.int .i64 (rp.c.write:Int),.int .i64 (rp.c.swap:Int),.int .i64 (rp.c.add:Int),.int .i64 (rp.c.fault:Int),.int .i64 (rp.ticks:Int),.int .i64 (rp.idle:Int)] 32)) (.cells (Array.replicate n (Value.int .i64 0)) 3 (0,0))
   simp only [World.size_alloc] at this
   rw [this];simp [fF,eG]
  ·rw [Hwa.out]
   have:=heap_alloc_new ((w.alloc (.cells #[.slice ea en ec,.slice va vn vc,.int .i64 (rp.c.read:Int),.int .i64 (rp.c.write:Int),.int .i64 (rp.c.swap:Int),.int .i64 (rp.c.add:Int),.int .i64 (rp.c.fault:Int),.int .i64 (rp.ticks:Int),.int .i64 (rp.idle:Int)] 32)).alloc (.cells (Array.replicate n (Value.int .i64 0)) 3)) (.cells (Array.replicate n (Value.int .i64 0)) 3 (0,0))
   simp only [World.size_alloc] at this
   rw [this];simp [fF,iA]
 case round=>
  obtain⟨k,hk,rfl,rfl,hb,hbx,hbl,hbc⟩:=hrel
  obtain⟨wo,rfl⟩:∃ wo,wo=wr:=⟨_,rfl⟩
  obtain⟨sm,hsm⟩:∃ sm,sm=((rp.evs.take k).map (·.steps)).sum:=⟨_,rfl⟩
  rw [<-hsm]
  have b0:wo.cell? ⟨w.heap.size,0,none⟩=some (.slice ea en ec):=by rw [aA hbx];rfl
  have b7:wo.cell? ⟨w.heap.size,7,none⟩=some (.int .i64 (rp.ticks:Int)):=by rw [aA hbx];rfl
  by_cases hlt:k<en
  ·obtain⟨g,la,lc,ka,kc,rfl,hgl,e0,e1,e2,e3,e4,e5,e6,e7,hls,hks,hknil⟩:=Hrep.out.ev8 Hen.out hlt hb
   have hkl:k<rp.evs.length:=by rw [<-Hen.out];exact hlt
   have hev:=Hg.out.ev k hkl
   have hprev:∀ j,k=j+1->wo.cell? ⟨g,j*8+1,none⟩=some (.int .i64 ((aB rp.evs j).inv:Int))/\(aB rp.evs j).inv<(aB rp.evs k).inv:=by
    rintro j rfl
    obtain⟨g',_,_,_,_,hgg,_,_,f1,_⟩:=Hrep.out.ev8 Hen.out (show j<en by omega) hb
    cases hgg
    exact⟨f1,Hg.out.rise j (j+1) (by omega) hkl⟩
   have hlast:=wH rp.evs calls n (p:=tn calls (aB rp.evs k)) (by have:=hev.thr;unfold tn;omega) k
   have hlc:0<=(eG rp.evs calls n k).getD (tn calls (aB rp.evs k)) 0/\(eG rp.evs calls n k).getD (tn calls (aB rp.evs k)) 0<((aB rp.evs k).inv:Int)/\(iA rp.evs calls n k).getD (tn calls (aB rp.evs k)) 0<=((aB rp.evs k).call:Int):=by
    have h1:=hev.inv1
    rcases hlast with⟨q1,q2⟩|⟨j,j1,j2,j3,j4⟩
    ·rw [q1,q2];omega
    ·obtain⟨m1,m2,m3⟩:=Hg.out.same j k j1 hkl j2
     rw [j3,j4,if_neg m1];omega
   have hLs:eG rp.evs calls n (k+1)=(eG rp.evs calls n k).set (tn calls (aB rp.evs k)) (if (aB rp.evs k).resp=0 then -1 else ((aB rp.evs k).resp:Int)):=rfl
   have hCs:iA rp.evs calls n (k+1)=(iA rp.evs calls n k).set (tn calls (aB rp.evs k)) (((aB rp.evs k).call:Int)+1):=rfl
   have hsum:((rp.evs.take (k+1)).map (·.steps)).sum=sm+(aB rp.evs k).steps:=by
    rw [List.take_succ_eq_append_getElem hkl,List.map_append,List.sum_append,<-hsm]
    simp [aB,List.getD_eq_getElem?_getD,List.getElem?_eq_getElem hkl]
   have hpn:tn calls (aB rp.evs k)<n:=by have:=hev.thr;unfold tn;omega
   have hlenL:=lI rp.evs calls n k
   have hlenC:=lN rp.evs calls n k
   have hthr:=hev.thr
   have hcall:=hev.call
   have hresp:=hev.resp
   have hopen:=hev.open_
   have hsteps:=hev.steps
   have MG:=hev.inv1
   have hinvt:=hev.invt
   have htk:=Hg.out.small
   have hticks:sm+(aB rp.evs k).steps<=rp.ticks:=by
    have h1:=Hg.out.sum
    have h2:rp.evs=rp.evs.take (k+1)++rp.evs.drop (k+1):=(List.take_append_drop _ _).symm
    rw [h2,List.map_append,List.sum_append,hsum] at h1
    omega
   obtain⟨pn,hpnE⟩:∃ pn,pn=tn calls (aB rp.evs k):=⟨_,rfl⟩
   obtain⟨LL,hLL⟩:∃ LL,LL=eG rp.evs calls n k:=⟨_,rfl⟩
   obtain⟨CC,hCC⟩:∃ CC,CC=iA rp.evs calls n k:=⟨_,rfl⟩
   have hpth:(pn:Int)=(calls.getD (aB rp.evs k).call d0).thread:=by rw [hpnE];unfold tn;omega
   rw [<-hpnE,<-hLL,<-hCC] at hlc
   rw [<-hpnE] at hpn hLs hCs
   rw [<-hLL] at hlenL hLs hbl
   rw [<-hCC] at hlenC hCs hbc
   obtain⟨lp,hlp⟩:∃ lp,lp=LL.getD pn 0:=⟨_,rfl⟩
   obtain⟨cp,hcp⟩:∃ cp,cp=CC.getD pn 0:=⟨_,rfl⟩
   rw [<-hlp,<-hcp] at hlc
   have c_l:wo.cell? ⟨w.heap.size+1,pn,none⟩=some (.int .i64 lp):=by
    rw [aA hbl,hlp];unfold fF;simp [List.getD_eq_getElem?_getD,show pn<LL.length by omega]
   have c_c:wo.cell? ⟨w.heap.size+2,pn,none⟩=some (.int .i64 cp):=by
    rw [aA hbc,hcp];unfold fF;simp [List.getD_eq_getElem?_getD,show pn<CC.length by omega]
   have hsz2:=aH hbc
   obtain⟨E,hE⟩:∃ E,E=aB rp.evs k:=⟨_,rfl⟩
   have hkw:=Hrep.out.keyAt Hen.out hlt hb e7
   rw [<-hE] at e0 e1 e2 e3 e4 e5 e6 e7 hks hkw hprev hlc hLs hCs hsum hthr hcall hresp hopen hsteps MG hinvt hticks hpth
   obtain⟨cI,iv,rs,st,⟨er,vl,li⟩,ky⟩:=E
   simp only at e0 e1 e2 e3 e4 e5 e6 e7 hks hkw hprev hlc hLs hCs hsum hthr hcall hresp hopen hsteps MG hinvt hticks hpth
   obtain⟨ln,hln⟩:∃ ln,ln=li.length:=⟨_,rfl⟩
   obtain⟨kn,hkn⟩:∃ kn,kn=ky.length:=⟨_,rfl⟩
   rw [<-hln] at e6
   rw [<-hkn] at e7 hks
   have Hkw:=Lib.hid hkw
   clear hkw
   obtain⟨b9,off,rfl,y0,y1,y2,y3,y4,y5⟩:=oZ Hc.out.sl hcall hb
   rw [<-hpth] at y0
   have IG:=World.block_lt_of_cell? _ _ y0
   simp only at IG
   obtain⟨w5,vC⟩:∃ w5,w5=wo.alloc (.cells #[.int .i64 (cI:Int),.int .i64 (iv:Int),.int .i64 (rs:Int),.int .i64 (st:Int),.int .i64 er,.int .u64 (vl:Int),.slice la ln lc,.slice ka kn kc] 44):=⟨_,rfl⟩
   have hb5:Below wo.heap.size wo w5:=by rw [vC];exact Gr.new _ _
   have hx5:w5.heap[wo.heap.size]?=some (.cells #[.int .i64 (cI:Int),.int .i64 (iv:Int),.int .i64 (rs:Int),.int .i64 (st:Int),.int .i64 er,.int .u64 (vl:Int),.slice la ln lc,.slice ka kn kc] 44 (0,0)):=by rw [vC];exact heap_alloc_new _ _
   have Hb:=Lib.hid hb;have Hb5:=Lib.hid hb5;have Hx5:=Lib.hid hx5;have Hw5:=Lib.hid vC
   have Hbx:=Lib.hid ((hb5.block _ (aH hbx)).trans hbx);have Hbl:=Lib.hid ((hb5.block _ (aH hbl)).trans hbl);have Hbc:=Lib.hid ((hb5.block _ (aH hbc)).trans hbc)
   have z7:=(hb5.cell (World.block_lt_of_cell? _ _ b7)).trans b7
   have z0:=(hb5.cell (World.block_lt_of_cell? _ _ b0)).trans b0
   have zl:=(hb5.cell (World.block_lt_of_cell? _ _ c_l)).trans c_l
   have zc:=(hb5.cell (World.block_lt_of_cell? _ _ c_c)).trans c_c
   have zy:=(hb5.cell IG).trans y0
   have zp:∀ j,k=j+1->∃ jv:Nat,w5.cell? ⟨g,j*8+1,none⟩=some (.int .i64 (jv:Int))/\jv<iv:=λj hj=>by
    obtain⟨h1,h2⟩:=hprev j hj
    exact⟨_,(hb5.cell (World.block_lt_of_cell? _ _ h1)).trans h1,h2⟩
   have x0:w5.cell? ⟨wo.heap.size,0,none⟩=some (.int .i64 (cI:Int)):=by rw [aA hx5];rfl
   have x1:w5.cell? ⟨wo.heap.size,1,none⟩=some (.int .i64 (iv:Int)):=by rw [aA hx5];rfl
   have x2:w5.cell? ⟨wo.heap.size,2,none⟩=some (.int .i64 (rs:Int)):=by rw [aA hx5];rfl
   have x3:w5.cell? ⟨wo.heap.size,3,none⟩=some (.int .i64 (st:Int)):=by rw [aA hx5];rfl
   have x5:w5.cell? ⟨wo.heap.size,5+2,none⟩=some (.slice ka kn kc):=by rw [aA hx5];rfl
   have l1:(k:Int)<(en:Int):=by omega
   have HLs:=Lib.hid hLs;have HCs:=Lib.hid hCs;have Hsum:=Lib.hid hsum;have Hks:=Lib.hid hks;have Hhkn:=Lib.hid hkn
   have Hresp:=Lib.hid hresp;have Hopen:=Lib.hid hopen;have HlenL:=Lib.hid hlenL;have HlenC:=Lib.hid hlenC;have Hpn:=Lib.hid hpn
   have Htk:=Lib.hid htk;have Htks:=Lib.hid hticks;have Zp:=Lib.hid zp;have Hgl5:=Lib.hid (Nat.lt_of_lt_of_le hgl hb5.size);have Hszo:=Lib.hid hsz2
   obtain⟨q1,q2,q3⟩:=hlc
   have l2:(cI:Int)<(calls.length:Int):=by omega
   have l4:(0:Int)<=(cI:Int):=by omega
   have m1:¬ (iv:Int)<1:=by omega
   have m2:¬ (st:Int)<1:=by omega
   have m4:¬ (rp.ticks:Int)<(iv:Int):=by omega
   have m5:(pn:Int)<(n:Int):=by omega
   have m6:¬ lp<0:=by omega
   have m7:¬ (iv:Int)<=lp:=by omega
   have m8:¬ (cI:Int)<cp:=by omega
   have d1:decide (calls.length<=cI)=false:=decide_eq_false (by omega)
   have d2:decide (iv<1)=false:=decide_eq_false (by omega)
   have d3:decide (st<1)=false:=decide_eq_false (by omega)
   have d4:decide (rp.ticks<iv)=false:=decide_eq_false (by omega)
   have d5:decide (n<=pn)=false:=decide_eq_false (by omega)
   have d6:decide (lp<0)=false:=decide_eq_false (by omega)
   have d7:decide ((iv:Int)<=lp)=false:=decide_eq_false (by omega)
   have d8:decide ((cI:Int)<cp)=false:=decide_eq_false (by omega)
   have dd1:decide ((calls.length:Int)<=(cI:Int))=false:=decide_eq_false (by omega)
   have Aj:decide ((cI:Int)<0)=false:=decide_eq_false (by omega)
   have Ao:decide ((iv:Int)<1)=false:=decide_eq_false (by omega)
   have Bf:decide ((st:Int)<1)=false:=decide_eq_false (by omega)
   have Bi:decide ((rp.ticks:Int)<(iv:Int))=false:=decide_eq_false (by omega)
   have Al:decide ((n:Int)<=(pn:Int))=false:=decide_eq_false (by omega)
   have Bl:decide ((pn:Int)<0)=false:=decide_eq_false (by omega)
   clear hls hknil hE hln hkn hLs hCs hsum hks hresp hopen hlenL hlenC hpn htk hticks zp hlast hlp hcp hLL hCC hpnE hsm hprev hcall hev hkl hthr hpth hsteps MG hinvt hb vC hb5 hx5 hbx hbl hbc hsz2 q1 q2 q3 hgl
   go_upto_region 10 with fail
   rw [<-Hw5.out]
   clear e0 e1 e2 e3 e4 e5 e6 e7 y0 y1 y2 y3 y4 y5 b0 b7 c_l c_c IG
   have hk0:k=0∨∃ j,k=j+1:=by cases k with|zero=>exact .inl rfl|succ j=>exact .inr ⟨j,rfl⟩
   rcases hk0 with hk0|⟨j,hj⟩
   ·have k9:¬ (0:Int)<(k:Int):=by omega
    have dk:decide (0<k)=false:=decide_eq_false (by omega)
    have dk2:decide ((0:Int)<(k:Int))=false:=decide_eq_false (by omega)
    go_wp2_with fail
    go_quiet (fail)
    revert nq;intro nq1
    by_cases hr0:rs=0
    ·subst hr0
     have ho:=Hopen.out rfl
     have rz:((0:Int) != 0)=false:=rfl
     have Ho:=Lib.hid ho
     clear ho
     go_wp2_with fail
     go_quiet (fail)
     go_upto_region 15 with fail
     refine DJ ?_
     intro wq hwq
     have HzC:=Lib.hid zc
     have hsame:∀ b:Nat,wq.heap[b]?=w5.heap[b]?:=λb=>by rw [hwq];rfl
     have hgq:Below w.heap.size w wq:=by rw [hwq];exact below_drewN (below_drewN (Gr.trans Hb.out Hb5.out) _) _
     have gx:=(hsame _).trans Hx5.out;have gbx:=(hsame _).trans Hbx.out;have gbl:=(hsame _).trans Hbl.out;have gbc:=(hsame _).trans Hbc.out
     have hsz:=aH gbc
     have g2:wq.cell? ⟨wo.heap.size,2,none⟩=some (.int .i64 (0:Int)):=by rw [aA gx];rfl
     have gl:wq.cell? ⟨w.heap.size+1,pn,none⟩=some (.int .i64 lp):=by rw [show wq.cell? ⟨w.heap.size+1,pn,none⟩=w5.cell? ⟨w.heap.size+1,pn,none⟩ by rw [hwq];rfl];exact zl
     have gf:wq.frozen? ⟨w.heap.size+1,pn,none⟩=false:=aC gbl pn
     have Gx:=Lib.hid gx;have Gbx:=Lib.hid gbx;have Gbl:=Lib.hid gbl;have Gbc:=Lib.hid gbc;have Hgq:=Lib.hid hgq
     have hne1:wo.heap.size≠w.heap.size+1:=by have:=Hszo.out;omega
     clear hsame hwq gx gbx gbl gbc hgq z0 z7 zl zc zy x0 x1 x2 x3 x5
     go_upto_region 20 with fail
     obtain⟨w6,dR⟩:∃ w6,w6=(wq.setCell ⟨w.heap.size+1,pn,none⟩ (.int .i64 0)).setCell ⟨w.heap.size+1,pn,none⟩ (.int .i64 (-1)):=⟨_,rfl⟩
     have rT:w6.heap[w.heap.size+1]?=some (.cells (fF (eG rp.evs calls n (k+1))) 3 (0,0)):=by
      rw [dR,aG (aG Gbl.out _ _),show eG rp.evs calls n (k+1)=LL.set pn (-1) from by rw [HLs.out];simp]
      congr 2
      unfold fF
      apply Array.ext'
      simp [List.map_set]
     have tF:∀ b:Nat,b≠w.heap.size+1->w6.heap[b]?=wq.heap[b]?:=λb hb=>by rw [dR];rw [aL hb,aL hb]
     have hs6:w6.heap.size=wq.heap.size:=by rw [dR];simp [World.setCell]
     have yN:Below w.heap.size w w6:=Hgq.out.trans ⟨by rw [dR];rfl,by rw [dR];rfl,by rw [dR];rfl,by omega,λb hb=>tF b (by omega)⟩
     have gx:=(tF _ hne1).trans Gx.out
     have gbx:=(tF _ (by omega)).trans Gbx.out
     have gbc:=(tF _ (by omega)).trans Gbc.out
     have v0:w6.cell? ⟨wo.heap.size,0,none⟩=some (.int .i64 (cI:Int)):=by rw [aA gx];rfl
     have v1:w6.cell? ⟨wo.heap.size,1,none⟩=some (.int .i64 (iv:Int)):=by rw [aA gx];rfl
     have v2:w6.cell? ⟨wo.heap.size,2,none⟩=some (.int .i64 0):=by rw [aA gx];rfl
     have v3:w6.cell? ⟨wo.heap.size,3,none⟩=some (.int .i64 (st:Int)):=by rw [aA gx];rfl
     have v7:w6.cell? ⟨wo.heap.size,7,none⟩=some (.slice ka kn kc):=by rw [aA gx];rfl
     have vt:w6.cell? ⟨w.heap.size,7,none⟩=some (.int .i64 (rp.ticks:Int)):=by rw [aA gbx];rfl
     have vcc:w6.cell? ⟨w.heap.size+2,pn,none⟩=some (.int .i64 cp):=by rw [aA gbc,<-aA Hbc.out];exact HzC.out
     have vf:w6.frozen? ⟨w.heap.size+2,pn,none⟩=false:=aC gbc pn
     have Hw6:=Lib.hid dR;have Hl6:=Lib.hid rT;have Hg6:=Lib.hid yN;have Gx6:=Lib.hid gx;have Gbx6:=Lib.hid gbx;have Gbc6:=Lib.hid gbc
     obtain⟨QR,MV⟩:=Hkw.out
     have KW:=Lib.hid MV
     have VL:IntKind.i64.wrap ((sm:Int)+(st:Int))=(sm:Int)+(st:Int):=by have:=Htks.out;have:=Htk.out;rw [IntKind.wrap_i64];omega
     have WP:IntKind.i64.wrap ((cI:Int)+1)=(cI:Int)+1:=by rw [IntKind.wrap_i64];omega
     have fin:∀ w7,Below w6.heap.size w6 w7->∀ w9,w9=w7.setCell ⟨w.heap.size+2,pn,none⟩ (.int .i64 ((cI:Int)+1))->
       Below w.heap.size w w9/\w9.heap[w.heap.size]?=some (.cells #[.slice (some ⟨g,0,none⟩) en ec,.slice va vn vc,.int .i64 (rp.c.read:Int),.int .i64 (rp.c.write:Int),.int .i64 (rp.c.swap:Int),.int .i64 (rp.c.add:Int),.int .i64 (rp.c.fault:Int),.int .i64 (rp.ticks:Int),.int .i64 (rp.idle:Int)] 32 (0,0))/\w9.heap[w.heap.size+1]?=some (.cells (fF (eG rp.evs calls n (k+1))) 3 (0,0))/\w9.heap[w.heap.size+2]?=some (.cells (fF (iA rp.evs calls n (k+1))) 3 (0,0)):=by
      intro w7 h7 w9 kL
      have t1:=(h7.block _ (aH rT)).trans rT
      have t2:=(h7.block _ (aH gbx)).trans gbx
      have t3:=(h7.block _ (aH gbc)).trans gbc
      have o9:∀ b:Nat,b≠w.heap.size+2->w9.heap[b]?=w7.heap[b]?:=λb hb=>by rw [kL];exact aL hb _ _
      refine⟨(Gr.trans yN h7).trans ⟨by rw [kL];rfl,by rw [kL];rfl,by rw [kL];rfl,by rw [kL];simp [World.setCell],λb hb=>o9 b (by omega)⟩,(o9 _ (by omega)).trans t2,(o9 _ (by omega)).trans t1,?_⟩
      rw [kL,aG t3,HCs.out]
      congr 2
      unfold fF
      apply Array.ext'
      simp [List.map_set]
     have Fin:=Lib.hid fin
     clear fin dR rT tF hs6 yN gx gbx gbc QR MV g2 gl gf hsz hne1
     have OI:¬ wo.heap.size=w.heap.size+1+1:=by have:=Hszo.out;omega
     have NY:¬ w.heap.size+1+1=wo.heap.size:=by have:=Hszo.out;omega
     have hne5:wo.heap.size≠w.heap.size+2:=by have:=Hszo.out;omega
     rw [<-Hw6.out]
     by_cases hky:ky=[]
     ·have VZ:kn=0:=by rw [Hhkn.out,hky];rfl
      subst VZ
      clear hky
      go_wp2
      go_roundw
      case rel=>
       obtain⟨f1,f2,f3,f4⟩:=Fin.out _ (Gr.refl _) _ rfl
       exact⟨k+1,by omega,by go_num,by rw [Hsum.out];go_num,f1,f2,f3,f4⟩
      case measure=>simp [intOf]<;>omega
     ·have ZK:(0:Int)<(kn:Int):=by have:=Hhkn.out;have:=List.length_pos_iff.2 hky;omega
      have WI:=Lib.hid (kH ky iv rp.ticks ka kc w6 (KW.out.grown Hg6.out) (Ho.out.resolve_left hky) Htk.out)
      rw [<-Hhkn.out] at WI
      clear hky
      go_wp2_with fail
      refine WI.out.mono ?_
      rintro e w7 ⟨rfl,h7⟩
      have H7:=Lib.hid h7
      have v0':=(h7.cell (World.block_lt_of_cell? _ _ v0)).trans v0
      have v3':=(h7.cell (World.block_lt_of_cell? _ _ v3)).trans v3
      have vcc':=(h7.cell (World.block_lt_of_cell? _ _ vcc)).trans vcc
      have vf':w7.frozen? ⟨w.heap.size+2,pn,none⟩=false:=aC ((h7.block _ (aH Gbc6.out)).trans Gbc6.out) pn
      clear h7 v0 v1 v2 v3 v7 vt vcc vf
      go_wp2
      go_roundw
      case rel=>
       obtain⟨f1,f2,f3,f4⟩:=Fin.out _ H7.out _ rfl
       exact⟨k+1,by omega,by go_num,by rw [Hsum.out];go_num,f1,f2,f3,f4⟩
      case measure=>simp [intOf]<;>omega
    ·obtain⟨h1,h2,h3,h4⟩:=Hresp.out hr0
     have htk:=Htk.out
     have hr1:¬ ((rs:Int)=0):=by omega
     have rz:((rs:Int) != 0)=true:=by simpa using hr0
     have r2:decide ((rp.ticks:Int)<(rs:Int))=false:=decide_eq_false (by omega)
     have r3:decide (rp.ticks<rs)=false:=decide_eq_false (by omega)
     have r4:decide ((rs:Int) - (iv:Int)+1<(st:Int))=false:=decide_eq_false (by omega)
     have r5:IntKind.i64.wrap ((rs:Int) - (iv:Int))=(rs:Int) - (iv:Int):=by rw [IntKind.wrap_i64];omega
     have r6:IntKind.i64.wrap ((rs:Int) - (iv:Int)+1)=(rs:Int) - (iv:Int)+1:=by rw [IntKind.wrap_i64];omega
     have r7:¬ (rs:Int)<(iv:Int):=by omega
     have H4:=Lib.hid h4;have Hrst:=Lib.hid h2;have Hr0:=Lib.hid hr0
     clear h1 h2 h3 h4 htk hr0
     go_wp2_with fail
     go_quiet (fail)
     go_upto_region 15 with fail
     refine DJ ?_
     intro wq hwq
     have HzC:=Lib.hid zc
     have hsame:∀ b:Nat,wq.heap[b]?=w5.heap[b]?:=λb=>by rw [hwq];rfl
     have hgq:Below w.heap.size w wq:=by rw [hwq];exact below_drewN (below_drewN (Gr.trans Hb.out Hb5.out) _) _
     have gx:=(hsame _).trans Hx5.out;have gbx:=(hsame _).trans Hbx.out;have gbl:=(hsame _).trans Hbl.out;have gbc:=(hsame _).trans Hbc.out
     have hsz:=aH gbc
     have g2:wq.cell? ⟨wo.heap.size,2,none⟩=some (.int .i64 (rs:Int)):=by rw [aA gx];rfl
     have gl:wq.cell? ⟨w.heap.size+1,pn,none⟩=some (.int .i64 lp):=by rw [show wq.cell? ⟨w.heap.size+1,pn,none⟩=w5.cell? ⟨w.heap.size+1,pn,none⟩ by rw [hwq];rfl];exact zl
     have gf:wq.frozen? ⟨w.heap.size+1,pn,none⟩=false:=aC gbl pn
     have Gx:=Lib.hid gx;have Gbx:=Lib.hid gbx;have Gbl:=Lib.hid gbl;have Gbc:=Lib.hid gbc;have Hgq:=Lib.hid hgq
     have hne1:wo.heap.size≠w.heap.size+1:=by have:=Hszo.out;omega
     clear hsame hwq gx gbx gbl gbc hgq z0 z7 zl zc zy x0 x1 x2 x3 x5
     go_upto_region 18 with fail
     obtain⟨w6,dR⟩:∃ w6,w6=wq.setCell ⟨w.heap.size+1,pn,none⟩ (.int .i64 (rs:Int)):=⟨_,rfl⟩
     have rT:w6.heap[w.heap.size+1]?=some (.cells (fF (eG rp.evs calls n (k+1))) 3 (0,0)):=by
      rw [dR,aG Gbl.out,show eG rp.evs calls n (k+1)=LL.set pn (rs:Int) from by rw [HLs.out];simp [Hr0.out]]
      congr 2
      unfold fF
      apply Array.ext'
      simp [List.map_set]
     have tF:∀ b:Nat,b≠w.heap.size+1->w6.heap[b]?=wq.heap[b]?:=λb hb=>by rw [dR];rw [aL hb]
     have hs6:w6.heap.size=wq.heap.size:=by rw [dR];simp [World.setCell]
     have yN:Below w.heap.size w w6:=Hgq.out.trans ⟨by rw [dR];rfl,by rw [dR];rfl,by rw [dR];rfl,by omega,λb hb=>tF b (by omega)⟩
     have gx:=(tF _ hne1).trans Gx.out
     have gbx:=(tF _ (by omega)).trans Gbx.out
     have gbc:=(tF _ (by omega)).trans Gbc.out
     have v0:w6.cell? ⟨wo.heap.size,0,none⟩=some (.int .i64 (cI:Int)):=by rw [aA gx];rfl
     have v1:w6.cell? ⟨wo.heap.size,1,none⟩=some (.int .i64 (iv:Int)):=by rw [aA gx];rfl
     have v2:w6.cell? ⟨wo.heap.size,2,none⟩=some (.int .i64 (rs:Int)):=by rw [aA gx];rfl
     have v3:w6.cell? ⟨wo.heap.size,3,none⟩=some (.int .i64 (st:Int)):=by rw [aA gx];rfl
     have v7:w6.cell? ⟨wo.heap.size,7,none⟩=some (.slice ka kn kc):=by rw [aA gx];rfl
     have vt:w6.cell? ⟨w.heap.size,7,none⟩=some (.int .i64 (rp.ticks:Int)):=by rw [aA gbx];rfl
     have vcc:w6.cell? ⟨w.heap.size+2,pn,none⟩=some (.int .i64 cp):=by rw [aA gbc,<-aA Hbc.out];exact HzC.out
     have vf:w6.frozen? ⟨w.heap.size+2,pn,none⟩=false:=aC gbc pn
     have Hw6:=Lib.hid dR;have Hl6:=Lib.hid rT;have Hg6:=Lib.hid yN;have Gx6:=Lib.hid gx;have Gbx6:=Lib.hid gbx;have Gbc6:=Lib.hid gbc
     obtain⟨QR,MV⟩:=Hkw.out
     have KW:=Lib.hid MV
     have VL:IntKind.i64.wrap ((sm:Int)+(st:Int))=(sm:Int)+(st:Int):=by have:=Htks.out;have:=Htk.out;rw [IntKind.wrap_i64];omega
     have WP:IntKind.i64.wrap ((cI:Int)+1)=(cI:Int)+1:=by rw [IntKind.wrap_i64];omega
     have fin:∀ w7,Below w6.heap.size w6 w7->∀ w9,w9=w7.setCell ⟨w.heap.size+2,pn,none⟩ (.int .i64 ((cI:Int)+1))->
       Below w.heap.size w w9/\w9.heap[w.heap.size]?=some (.cells #[.slice (some ⟨g,0,none⟩) en ec,.slice va vn vc,.int .i64 (rp.c.read:Int),.int .i64 (rp.c.write:Int),.int .i64 (rp.c.swap:Int),.int .i64 (rp.c.add:Int),.int .i64 (rp.c.fault:Int),.int .i64 (rp.ticks:Int),.int .i64 (rp.idle:Int)] 32 (0,0))/\w9.heap[w.heap.size+1]?=some (.cells (fF (eG rp.evs calls n (k+1))) 3 (0,0))/\w9.heap[w.heap.size+2]?=some (.cells (fF (iA rp.evs calls n (k+1))) 3 (0,0)):=by
      intro w7 h7 w9 kL
      have t1:=(h7.block _ (aH rT)).trans rT
      have t2:=(h7.block _ (aH gbx)).trans gbx
      have t3:=(h7.block _ (aH gbc)).trans gbc
      have o9:∀ b:Nat,b≠w.heap.size+2->w9.heap[b]?=w7.heap[b]?:=λb hb=>by rw [kL];exact aL hb _ _
      refine⟨(Gr.trans yN h7).trans ⟨by rw [kL];rfl,by rw [kL];rfl,by rw [kL];rfl,by rw [kL];simp [World.setCell],λb hb=>o9 b (by omega)⟩,(o9 _ (by omega)).trans t2,(o9 _ (by omega)).trans t1,?_⟩
      rw [kL,aG t3,HCs.out]
      congr 2
      unfold fF
      apply Array.ext'
      simp [List.map_set]
     have Fin:=Lib.hid fin
     clear fin dR rT tF hs6 yN gx gbx gbc QR MV g2 gl gf hsz hne1
     have OI:¬ wo.heap.size=w.heap.size+1+1:=by have:=Hszo.out;omega
     have NY:¬ w.heap.size+1+1=wo.heap.size:=by have:=Hszo.out;omega
     have hne5:wo.heap.size≠w.heap.size+2:=by have:=Hszo.out;omega
     rw [<-Hw6.out]
     have hrt:rs<1000000:=by have:=Htk.out;have:=Hrst.out;omega
     have WI:=Lib.hid (kH ky iv rs ka kc w6 (KW.out.grown Hg6.out) H4.out hrt)
     rw [<-Hhkn.out] at WI
     clear hrt
     go_wp2_with fail
     refine WI.out.mono ?_
     rintro e w7 ⟨rfl,h7⟩
     have H7:=Lib.hid h7
     have v0':=(h7.cell (World.block_lt_of_cell? _ _ v0)).trans v0
     have v2':=(h7.cell (World.block_lt_of_cell? _ _ v2)).trans v2
     have v3':=(h7.cell (World.block_lt_of_cell? _ _ v3)).trans v3
     have vcc':=(h7.cell (World.block_lt_of_cell? _ _ vcc)).trans vcc
     have vf':w7.frozen? ⟨w.heap.size+2,pn,none⟩=false:=aC ((h7.block _ (aH Gbc6.out)).trans Gbc6.out) pn
     clear h7 v0 v1 v2 v3 v7 vt vcc vf
     go_wp2
     go_roundw
     case rel=>
      obtain⟨f1,f2,f3,f4⟩:=Fin.out _ H7.out _ rfl
      exact⟨k+1,by omega,by go_num,by rw [Hsum.out];go_num,f1,f2,f3,f4⟩
     case measure=>simp [intOf]<;>omega
   ·obtain⟨jv,p1,p2⟩:=Zp.out j hj
    have k9:(0:Int)<(k:Int):=by omega
    have dk:decide (0<k)=true:=decide_eq_true (by omega)
    have dk2:decide ((0:Int)<(k:Int))=true:=decide_eq_true (by omega)
    have dj:decide (iv<=jv)=false:=decide_eq_false (by omega)
    have Am:decide ((iv:Int)<=(jv:Int))=false:=decide_eq_false (by omega)
    have k8:IntKind.i64.wrap ((k:Int) - 1)=(j:Int):=by rw [IntKind.wrap_i64];omega
    have m3:¬ (iv:Int)<=(jv:Int):=by omega
    have k7:(j:Int)<(en:Int):=by omega
    clear hj p2
    go_wp2_with fail
    go_quiet (fail)
    revert nq;intro nq1
    by_cases hr0:rs=0
    ·subst hr0
     have ho:=Hopen.out rfl
     have rz:((0:Int) != 0)=false:=rfl
     have Ho:=Lib.hid ho
     clear ho
     go_wp2_with fail
     go_quiet (fail)
     go_upto_region 15 with fail
     refine DJ ?_
     intro wq hwq
     have HzC:=Lib.hid zc
     have hsame:∀ b:Nat,wq.heap[b]?=w5.heap[b]?:=λb=>by rw [hwq];rfl
     have hgq:Below w.heap.size w wq:=by rw [hwq];exact below_drewN (below_drewN (Gr.trans Hb.out Hb5.out) _) _
     have gx:=(hsame _).trans Hx5.out;have gbx:=(hsame _).trans Hbx.out;have gbl:=(hsame _).trans Hbl.out;have gbc:=(hsame _).trans Hbc.out
     have hsz:=aH gbc
     have g2:wq.cell? ⟨wo.heap.size,2,none⟩=some (.int .i64 (0:Int)):=by rw [aA gx];rfl
     have gl:wq.cell? ⟨w.heap.size+1,pn,none⟩=some (.int .i64 lp):=by rw [show wq.cell? ⟨w.heap.size+1,pn,none⟩=w5.cell? ⟨w.heap.size+1,pn,none⟩ by rw [hwq];rfl];exact zl
     have gf:wq.frozen? ⟨w.heap.size+1,pn,none⟩=false:=aC gbl pn
     have Gx:=Lib.hid gx;have Gbx:=Lib.hid gbx;have Gbl:=Lib.hid gbl;have Gbc:=Lib.hid gbc;have Hgq:=Lib.hid hgq
     have hne1:wo.heap.size≠w.heap.size+1:=by have:=Hszo.out;omega
     clear hsame hwq gx gbx gbl gbc hgq z0 z7 zl zc zy x0 x1 x2 x3 x5
     go_upto_region 20 with fail
     obtain⟨w6,dR⟩:∃ w6,w6=(wq.setCell ⟨w.heap.size+1,pn,none⟩ (.int .i64 0)).setCell ⟨w.heap.size+1,pn,none⟩ (.int .i64 (-1)):=⟨_,rfl⟩
     have rT:w6.heap[w.heap.size+1]?=some (.cells (fF (eG rp.evs calls n (k+1))) 3 (0,0)):=by
      rw [dR,aG (aG Gbl.out _ _),show eG rp.evs calls n (k+1)=LL.set pn (-1) from by rw [HLs.out];simp]
      congr 2
      unfold fF
      apply Array.ext'
      simp [List.map_set]
     have tF:∀ b:Nat,b≠w.heap.size+1->w6.heap[b]?=wq.heap[b]?:=λb hb=>by rw [dR];rw [aL hb,aL hb]
     have hs6:w6.heap.size=wq.heap.size:=by rw [dR];simp [World.setCell]
     have yN:Below w.heap.size w w6:=Hgq.out.trans ⟨by rw [dR];rfl,by rw [dR];rfl,by rw [dR];rfl,by omega,λb hb=>tF b (by omega)⟩
     have gx:=(tF _ hne1).trans Gx.out
     have gbx:=(tF _ (by omega)).trans Gbx.out
     have gbc:=(tF _ (by omega)).trans Gbc.out
     have v0:w6.cell? ⟨wo.heap.size,0,none⟩=some (.int .i64 (cI:Int)):=by rw [aA gx];rfl
     have v1:w6.cell? ⟨wo.heap.size,1,none⟩=some (.int .i64 (iv:Int)):=by rw [aA gx];rfl
     have v2:w6.cell? ⟨wo.heap.size,2,none⟩=some (.int .i64 0):=by rw [aA gx];rfl
     have v3:w6.cell? ⟨wo.heap.size,3,none⟩=some (.int .i64 (st:Int)):=by rw [aA gx];rfl
     have v7:w6.cell? ⟨wo.heap.size,7,none⟩=some (.slice ka kn kc):=by rw [aA gx];rfl
     have vt:w6.cell? ⟨w.heap.size,7,none⟩=some (.int .i64 (rp.ticks:Int)):=by rw [aA gbx];rfl
     have vcc:w6.cell? ⟨w.heap.size+2,pn,none⟩=some (.int .i64 cp):=by rw [aA gbc,<-aA Hbc.out];exact HzC.out
     have vf:w6.frozen? ⟨w.heap.size+2,pn,none⟩=false:=aC gbc pn
     have Hw6:=Lib.hid dR;have Hl6:=Lib.hid rT;have Hg6:=Lib.hid yN;have Gx6:=Lib.hid gx;have Gbx6:=Lib.hid gbx;have Gbc6:=Lib.hid gbc
     obtain⟨QR,MV⟩:=Hkw.out
     have KW:=Lib.hid MV
     have VL:IntKind.i64.wrap ((sm:Int)+(st:Int))=(sm:Int)+(st:Int):=by have:=Htks.out;have:=Htk.out;rw [IntKind.wrap_i64];omega
     have WP:IntKind.i64.wrap ((cI:Int)+1)=(cI:Int)+1:=by rw [IntKind.wrap_i64];omega
     have fin:∀ w7,Below w6.heap.size w6 w7->∀ w9,w9=w7.setCell ⟨w.heap.size+2,pn,none⟩ (.int .i64 ((cI:Int)+1))->
       Below w.heap.size w w9/\w9.heap[w.heap.size]?=some (.cells #[.slice (some ⟨g,0,none⟩) en ec,.slice va vn vc,.int .i64 (rp.c.read:Int),.int .i64 (rp.c.write:Int),.int .i64 (rp.c.swap:Int),.int .i64 (rp.c.add:Int),.int .i64 (rp.c.fault:Int),.int .i64 (rp.ticks:Int),.int .i64 (rp.idle:Int)] 32 (0,0))/\w9.heap[w.heap.size+1]?=some (.cells (fF (eG rp.evs calls n (k+1))) 3 (0,0))/\w9.heap[w.heap.size+2]?=some (.cells (fF (iA rp.evs calls n (k+1))) 3 (0,0)):=by
      intro w7 h7 w9 kL
      have t1:=(h7.block _ (aH rT)).trans rT
      have t2:=(h7.block _ (aH gbx)).trans gbx
      have t3:=(h7.block _ (aH gbc)).trans gbc
      have o9:∀ b:Nat,b≠w.heap.size+2->w9.heap[b]?=w7.heap[b]?:=λb hb=>by rw [kL];exact aL hb _ _
      refine⟨(Gr.trans yN h7).trans ⟨by rw [kL];rfl,by rw [kL];rfl,by rw [kL];rfl,by rw [kL];simp [World.setCell],λb hb=>o9 b (by omega)⟩,(o9 _ (by omega)).trans t2,(o9 _ (by omega)).trans t1,?_⟩
      rw [kL,aG t3,HCs.out]
      congr 2
      unfold fF
      apply Array.ext'
      simp [List.map_set]
     have Fin:=Lib.hid fin
     clear fin dR rT tF hs6 yN gx gbx gbc QR MV g2 gl gf hsz hne1
     have OI:¬ wo.heap.size=w.heap.size+1+1:=by have:=Hszo.out;omega
     have NY:¬ w.heap.size+1+1=wo.heap.size:=by have:=Hszo.out;omega
     have hne5:wo.heap.size≠w.heap.size+2:=by have:=Hszo.out;omega
     rw [<-Hw6.out]
     by_cases hky:ky=[]
     ·have VZ:kn=0:=by rw [Hhkn.out,hky];rfl
      subst VZ
      clear hky
      go_wp2
      go_roundw
      case rel=>
       obtain⟨f1,f2,f3,f4⟩:=Fin.out _ (Gr.refl _) _ rfl
       exact⟨k+1,by omega,by go_num,by rw [Hsum.out];go_num,f1,f2,f3,f4⟩
      case measure=>simp [intOf]<;>omega
     ·have ZK:(0:Int)<(kn:Int):=by have:=Hhkn.out;have:=List.length_pos_iff.2 hky;omega
      have WI:=Lib.hid (kH ky iv rp.ticks ka kc w6 (KW.out.grown Hg6.out) (Ho.out.resolve_left hky) Htk.out)
      rw [<-Hhkn.out] at WI
      clear hky
      go_wp2_with fail
      refine WI.out.mono ?_
      rintro e w7 ⟨rfl,h7⟩
      have H7:=Lib.hid h7
      have v0':=(h7.cell (World.block_lt_of_cell? _ _ v0)).trans v0
      have v3':=(h7.cell (World.block_lt_of_cell? _ _ v3)).trans v3
      have vcc':=(h7.cell (World.block_lt_of_cell? _ _ vcc)).trans vcc
      have vf':w7.frozen? ⟨w.heap.size+2,pn,none⟩=false:=aC ((h7.block _ (aH Gbc6.out)).trans Gbc6.out) pn
      clear h7 v0 v1 v2 v3 v7 vt vcc vf
      go_wp2
      go_roundw
      case rel=>
       obtain⟨f1,f2,f3,f4⟩:=Fin.out _ H7.out _ rfl
       exact⟨k+1,by omega,by go_num,by rw [Hsum.out];go_num,f1,f2,f3,f4⟩
      case measure=>simp [intOf]<;>omega
    ·obtain⟨h1,h2,h3,h4⟩:=Hresp.out hr0
     have htk:=Htk.out
     have hr1:¬ ((rs:Int)=0):=by omega
     have rz:((rs:Int) != 0)=true:=by simpa using hr0
     have r2:decide ((rp.ticks:Int)<(rs:Int))=false:=decide_eq_false (by omega)
     have r3:decide (rp.ticks<rs)=false:=decide_eq_false (by omega)
     have r4:decide ((rs:Int) - (iv:Int)+1<(st:Int))=false:=decide_eq_false (by omega)
     have r5:IntKind.i64.wrap ((rs:Int) - (iv:Int))=(rs:Int) - (iv:Int):=by rw [IntKind.wrap_i64];omega
     have r6:IntKind.i64.wrap ((rs:Int) - (iv:Int)+1)=(rs:Int) - (iv:Int)+1:=by rw [IntKind.wrap_i64];omega
     have r7:¬ (rs:Int)<(iv:Int):=by omega
     have H4:=Lib.hid h4;have Hrst:=Lib.hid h2;have Hr0:=Lib.hid hr0
     clear h1 h2 h3 h4 htk hr0
     go_wp2_with fail
     go_quiet (fail)
     go_upto_region 15 with fail
     refine DJ ?_
     intro wq hwq
     have HzC:=Lib.hid zc
     have hsame:∀ b:Nat,wq.heap[b]?=w5.heap[b]?:=λb=>by rw [hwq];rfl
     have hgq:Below w.heap.size w wq:=by rw [hwq];exact below_drewN (below_drewN (Gr.trans Hb.out Hb5.out) _) _
     have gx:=(hsame _).trans Hx5.out;have gbx:=(hsame _).trans Hbx.out;have gbl:=(hsame _).trans Hbl.out;have gbc:=(hsame _).trans Hbc.out
     have hsz:=aH gbc
     have g2:wq.cell? ⟨wo.heap.size,2,none⟩=some (.int .i64 (rs:Int)):=by rw [aA gx];rfl
     have gl:wq.cell? ⟨w.heap.size+1,pn,none⟩=some (.int .i64 lp):=by rw [show wq.cell? ⟨w.heap.size+1,pn,none⟩=w5.cell? ⟨w.heap.size+1,pn,none⟩ by rw [hwq];rfl];exact zl
     have gf:wq.frozen? ⟨w.heap.size+1,pn,none⟩=false:=aC gbl pn
     have Gx:=Lib.hid gx;have Gbx:=Lib.hid gbx;have Gbl:=Lib.hid gbl;have Gbc:=Lib.hid gbc;have Hgq:=Lib.hid hgq
     have hne1:wo.heap.size≠w.heap.size+1:=by have:=Hszo.out;omega
     clear hsame hwq gx gbx gbl gbc hgq z0 z7 zl zc zy x0 x1 x2 x3 x5
     go_upto_region 18 with fail
     obtain⟨w6,dR⟩:∃ w6,w6=wq.setCell ⟨w.heap.size+1,pn,none⟩ (.int .i64 (rs:Int)):=⟨_,rfl⟩
     have rT:w6.heap[w.heap.size+1]?=some (.cells (fF (eG rp.evs calls n (k+1))) 3 (0,0)):=by
      rw [dR,aG Gbl.out,show eG rp.evs calls n (k+1)=LL.set pn (rs:Int) from by rw [HLs.out];simp [Hr0.out]]
      congr 2
      unfold fF
      apply Array.ext'
      simp [List.map_set]
     have tF:∀ b:Nat,b≠w.heap.size+1->w6.heap[b]?=wq.heap[b]?:=λb hb=>by rw [dR];rw [aL hb]
     have hs6:w6.heap.size=wq.heap.size:=by rw [dR];simp [World.setCell]
     have yN:Below w.heap.size w w6:=Hgq.out.trans ⟨by rw [dR];rfl,by rw [dR];rfl,by rw [dR];rfl,by omega,λb hb=>tF b (by omega)⟩
     have gx:=(tF _ hne1).trans Gx.out
     have gbx:=(tF _ (by omega)).trans Gbx.out
     have gbc:=(tF _ (by omega)).trans Gbc.out
     have v0:w6.cell? ⟨wo.heap.size,0,none⟩=some (.int .i64 (cI:Int)):=by rw [aA gx];rfl
     have v1:w6.cell? ⟨wo.heap.size,1,none⟩=some (.int .i64 (iv:Int)):=by rw [aA gx];rfl
     have v2:w6.cell? ⟨wo.heap.size,2,none⟩=some (.int .i64 (rs:Int)):=by rw [aA gx];rfl
     have v3:w6.cell? ⟨wo.heap.size,3,none⟩=some (.int .i64 (st:Int)):=by rw [aA gx];rfl
     have v7:w6.cell? ⟨wo.heap.size,7,none⟩=some (.slice ka kn kc):=by rw [aA gx];rfl
     have vt:w6.cell? ⟨w.heap.size,7,none⟩=some (.int .i64 (rp.ticks:Int)):=by rw [aA gbx];rfl
     have vcc:w6.cell? ⟨w.heap.size+2,pn,none⟩=some (.int .i64 cp):=by rw [aA gbc,<-aA Hbc.out];exact HzC.out
     have vf:w6.frozen? ⟨w.heap.size+2,pn,none⟩=false:=aC gbc pn
     have Hw6:=Lib.hid dR;have Hl6:=Lib.hid rT;have Hg6:=Lib.hid yN;have Gx6:=Lib.hid gx;have Gbx6:=Lib.hid gbx;have Gbc6:=Lib.hid gbc
     obtain⟨QR,MV⟩:=Hkw.out
     have KW:=Lib.hid MV
     have VL:IntKind.i64.wrap ((sm:Int)+(st:Int))=(sm:Int)+(st:Int):=by have:=Htks.out;have:=Htk.out;rw [IntKind.wrap_i64];omega
     have WP:IntKind.i64.wrap ((cI:Int)+1)=(cI:Int)+1:=by rw [IntKind.wrap_i64];omega
     have fin:∀ w7,Below w6.heap.size w6 w7->∀ w9,w9=w7.setCell ⟨w.heap.size+2,pn,none⟩ (.int .i64 ((cI:Int)+1))->
       Below w.heap.size w w9/\w9.heap[w.heap.size]?=some (.cells #[.slice (some ⟨g,0,none⟩) en ec,.slice va vn vc,.int .i64 (rp.c.read:Int),.int .i64 (rp.c.write:Int),.int .i64 (rp.c.swap:Int),.int .i64 (rp.c.add:Int),.int .i64 (rp.c.fault:Int),.int .i64 (rp.ticks:Int),.int .i64 (rp.idle:Int)] 32 (0,0))/\w9.heap[w.heap.size+1]?=some (.cells (fF (eG rp.evs calls n (k+1))) 3 (0,0))/\w9.heap[w.heap.size+2]?=some (.cells (fF (iA rp.evs calls n (k+1))) 3 (0,0)):=by
      intro w7 h7 w9 kL
      have t1:=(h7.block _ (aH rT)).trans rT
      have t2:=(h7.block _ (aH gbx)).trans gbx
      have t3:=(h7.block _ (aH gbc)).trans gbc
      have o9:∀ b:Nat,b≠w.heap.size+2->w9.heap[b]?=w7.heap[b]?:=λb hb=>by rw [kL];exact aL hb _ _
      refine⟨(Gr.trans yN h7).trans ⟨by rw [kL];rfl,by rw [kL];rfl,by rw [kL];rfl,by rw [kL];simp [World.setCell],λb hb=>o9 b (by omega)⟩,(o9 _ (by omega)).trans t2,(o9 _ (by omega)).trans t1,?_⟩
      rw [kL,aG t3,HCs.out]
      congr 2
      unfold fF
      apply Array.ext'
      simp [List.map_set]
     have Fin:=Lib.hid fin
     clear fin dR rT tF hs6 yN gx gbx gbc QR MV g2 gl gf hsz hne1
     have OI:¬ wo.heap.size=w.heap.size+1+1:=by have:=Hszo.out;omega
     have NY:¬ w.heap.size+1+1=wo.heap.size:=by have:=Hszo.out;omega
     have hne5:wo.heap.size≠w.heap.size+2:=by have:=Hszo.out;omega
     rw [<-Hw6.out]
     have hrt:rs<1000000:=by have:=Htk.out;have:=Hrst.out;omega
     have WI:=Lib.hid (kH ky iv rs ka kc w6 (KW.out.grown Hg6.out) H4.out hrt)
     rw [<-Hhkn.out] at WI
     clear hrt
     go_wp2_with fail
     refine WI.out.mono ?_
     rintro e w7 ⟨rfl,h7⟩
     have H7:=Lib.hid h7
     have v0':=(h7.cell (World.block_lt_of_cell? _ _ v0)).trans v0
     have v2':=(h7.cell (World.block_lt_of_cell? _ _ v2)).trans v2
     have v3':=(h7.cell (World.block_lt_of_cell? _ _ v3)).trans v3
     have vcc':=(h7.cell (World.block_lt_of_cell? _ _ vcc)).trans vcc
     have vf':w7.frozen? ⟨w.heap.size+2,pn,none⟩=false:=aC ((h7.block _ (aH Gbc6.out)).trans Gbc6.out) pn
     clear h7 v0 v1 v2 v3 v7 vt vcc vf
     go_wp2
     go_roundw
     case rel=>
      obtain⟨f1,f2,f3,f4⟩:=Fin.out _ H7.out _ rfl
      exact⟨k+1,by omega,by go_num,by rw [Hsum.out];go_num,f1,f2,f3,f4⟩
     case measure=>simp [intOf]<;>omega
  ·obtain rfl:k=en:=by omega
   have l1:¬ (k:Int)<(k:Int):=by omega
   have UU:sm=rp.ticks:=by rw [hsm,Hen.out,List.take_length];exact Hg.out.sum
   have hfl:=Hg.out.fault
   have hall:=Hg.out.all
   have htk:=Hg.out.small
   have b2:wo.cell? ⟨w.heap.size,2,none⟩=some (.int .i64 (rp.c.read:Int)):=by rw [aA hbx];rfl
   have b3:wo.cell? ⟨w.heap.size,3,none⟩=some (.int .i64 (rp.c.write:Int)):=by rw [aA hbx];rfl
   have b4:wo.cell? ⟨w.heap.size,4,none⟩=some (.int .i64 (rp.c.swap:Int)):=by rw [aA hbx];rfl
   have b5:wo.cell? ⟨w.heap.size,5,none⟩=some (.int .i64 (rp.c.add:Int)):=by rw [aA hbx];rfl
   have b6:wo.cell? ⟨w.heap.size,6,none⟩=some (.int .i64 (rp.c.fault:Int)):=by rw [aA hbx];rfl
   rw [hfl] at b6
   obtain⟨c1,hc1⟩:∃ c1,c1=rp.c.read:=⟨_,rfl⟩
   obtain⟨c2,hc2⟩:∃ c2,c2=rp.c.write:=⟨_,rfl⟩
   obtain⟨c3,hc3⟩:∃ c3,c3=rp.c.swap:=⟨_,rfl⟩
   obtain⟨c4,hc4⟩:∃ c4,c4=rp.c.add:=⟨_,rfl⟩
   obtain⟨tk,OC⟩:∃ tk,tk=rp.ticks:=⟨_,rfl⟩
   rw [<-OC] at b7 UU hall htk
   rw [<-hc1] at b2 hall
   rw [<-hc2] at b3 hall
   rw [<-hc3] at b4 hall
   rw [<-hc4] at b5 hall
   subst UU
   have s1:IntKind.i64.wrap ((c1:Int)+(c2:Int))=(c1:Int)+(c2:Int):=by rw [IntKind.wrap_i64];omega
   have s2:IntKind.i64.wrap ((c1:Int)+(c2:Int)+(c3:Int))=(c1:Int)+(c2:Int)+(c3:Int):=by rw [IntKind.wrap_i64];omega
   have s3:IntKind.i64.wrap ((c1:Int)+(c2:Int)+(c3:Int)+(c4:Int))=(c1:Int)+(c2:Int)+(c3:Int)+(c4:Int):=by rw [IntKind.wrap_i64];omega
   have s4:(c1:Int)+(c2:Int)+(c3:Int)+(c4:Int)<=(sm:Int):=by omega
   have Hb:=Lib.hid hb
   have hbw:=aH hbx
   clear hb hbx hbl hbc hsm hfl hall htk OC hc1 hc2 hc3 hc4 b0
   go_wp2
   go_ret
   exact⟨rfl,Gr.trans Hb.out (Gr.new _ _)⟩
end Go.Proofs.Ytifhldnmcdbpfaa
