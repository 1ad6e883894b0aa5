/- Layer 6: the walk of roundelayplain.Order. -/
import Derived.Test.YtifhldnmcdbpfaaU22
import Derived.Test.YtifhldnmcdbpfaaU12
import Derived.Test.YtifhldnmcdbpfaaU15
import Derived.Deep.AppendLies
import Derived.Deep.Cut
import Derived.Test.YtifhldnmcdbpfaaU02
import Derived.Test.YtifhldnmcdbpfaaU01
import Derived.Maps.OwnSet
import Derived.Test.YtifhldnmcdbpfaaU16
import Derived.Test.YtifhldnmcdbpfaaU17
import Derived.ChangeKeysEq
import Derived.Deep.MidRow
set_option maxRecDepth 100000
set_option linter.unusedVariables false
set_option linter.unusedSimpArgs false
set_option linter.unnecessarySimpa false
namespace Go.Proofs.Ytifhldnmcdbpfaa
section
open Go.RowKit
theorem pI {w:World} {B:Nat} {e:TypeId} {g n cap:Nat} {xs:List Value} (h:w.ownsRow B e 1 (.slice (some ⟨g,0,none⟩) n cap) n xs) (j:Nat) (u:Value):(w.setCell ⟨g,j,none⟩ u).ownsRow B e 1 (.slice (some ⟨g,0,none⟩) n cap) n (xs.set j u):=by
 obtain⟨h1,h2⟩:=h
 rcases h2 with⟨hv,_⟩|⟨g',cap',cur,hv,hg,hh,r1,r2,r3,r4⟩
 ·cases hv
 ·cases hv
  refine⟨by simpa using h1,.inr ⟨g,cap,cur.setIfInBounds j u,rfl,hg,aG hh j u,r1,r2,by simpa using r3,?_⟩⟩
  rw [Array.toList_setIfInBounds,List.take_set,r4]
theorem lX {w:World} {B:Nat} {e:TypeId} {g n cap:Nat} {xs:List Value} (h:w.ownsRow B e 1 (.slice (some ⟨g,0,none⟩) n cap) n xs) {j:Nat} {u:Value} (hj:xs[j]?=some u):w.cell? ⟨g,j,none⟩=some u/\w.frozen? ⟨g,j,none⟩=false:=by
 have hc:=h
 obtain⟨h1,h2⟩:=h
 rcases h2 with⟨hv,_⟩|⟨g',cap',cur,hv,hg,hh,r1,r2,r3,r4⟩
 ·cases hv
 ·cases hv
  refine⟨?_,aC hh j⟩
  have:=hc.cells (g:=g) rfl j _ hj
  rw [nL] at this
  exact this
theorem sH {w:World} {B:Nat} {e:TypeId} {v:Value} {n:Nat} {xs:List Value} (h:w.ownsRow B e 1 v (n+1) xs):∃ g cap,v=.slice (some ⟨g,0,none⟩) (n+1) cap/\B<=g/\g<w.heap.size/\n+1<=cap:=by
 obtain⟨h1,h2⟩:=h
 rcases h2 with⟨_,hn⟩|⟨g,cap,cur,hv,hg,hh,r1,_⟩
 ·cases hn
 ·exact⟨g,cap,hv,hg,aH hh,r1⟩
def kV (out:List Nat) (k y:Nat):List Nat:=out.take k++y::out.drop k
theorem KZ {out:List Nat} {k y:Nat} (h:k<=out.length):(kV out k y).length=out.length+1:=by
 unfold kV;rw [List.length_append,List.length_cons,List.length_take,List.length_drop];omega
theorem NH {out:List Nat} {k y:Nat} (h:k<out.length):(kV out (k+1) y)[k]?=some (out.getD k 0):=by
 unfold kV
 rw [List.getElem?_append_left (by rw [List.length_take];omega),List.getElem?_take_of_lt (by omega),List.getD_eq_getElem?_getD,List.getElem?_eq_getElem h];rfl
theorem wJ {out:List Nat} {k y:Nat} (h:k<=out.length):(kV out k y)[k]?=some y:=by
 unfold kV
 rw [List.getElem?_append_right (by rw [List.length_take];omega),List.length_take,show k - min k out.length=0 by omega];rfl
theorem yX {out:List Nat} {k y z:Nat} (h:k<=out.length):(kV out k y).set k z=kV out k z:=by
 unfold kV
 rw [List.set_append_right _ _ (by rw [List.length_take];omega),List.length_take,show k - min k out.length=0 by omega];rfl
theorem FF {out:List Nat} {k:Nat} (h:k<out.length):kV out (k+1) (out.getD k 0)=kV out k (out.getD k 0):=by
 unfold kV
 have e1:out.getD k 0=out[k]:=by rw [List.getD_eq_getElem?_getD,List.getElem?_eq_getElem h];rfl
 rw [e1,List.take_succ_eq_append_getElem h,List.drop_eq_getElem_cons h,List.append_assoc];rfl
theorem EZ (out:List Nat) (y:Nat):kV out out.length y=out++[y]:=by
 unfold kV;rw [List.take_length,List.drop_length]
theorem xX (l:List Nat) (k z:Nat):(l.map dW).set k (.int .i64 (z:Int))=(l.set k z).map dW:=by rw [List.map_set];rfl
theorem sN {l:List Nat} {k z:Nat} (h:l[k]?=some z):(l.map dW)[k]?=some (.int .i64 (z:Int)):=by rw [List.getElem?_map,h];rfl
set_option maxHeartbeats 8000000 in
theorem HZ {X:Nat->Prop} {B:Nat} (w:World) (ea va:Option Addr) (en ec vn vc:Nat) (ers:List (Value×Value)) (rp:gT) (hrep:fB X B w (.slice ea en ec) (.slice va vn vc) ers rp) (hen:en=rp.evs.length) (hlen:rp.evs.length<1000000) :
  Calls Try.prog 49 #[.slice ea en ec] w λe w'=>∃ a c,e=.returned (.slice a (dD rp.evs).length c)/\aW w' a (dD rp.evs).length 1 (xK (dD rp.evs))/\(∀ b off,a=some ⟨b,off,none⟩->w.heap.size<=b)/\Below w.heap.size w w':=by
 have henl:en<=9223372036854775807:=by omega
 have YR:en<1000000:=by omega
 obtain⟨i0,hi,hz0,hz1,hz2⟩:=info_parts qJ
 have Hrep:=Lib.hid hrep;have Hen:=Lib.hid hen;have Hlen:=Lib.hid hlen
 clear hrep hen hlen
 go_enter Try.func49,Try.ntmps49
 go_wp2
 go_loopw [3,8] (λov i wr=>∃ k:Nat,k<=en/\i=.int .i64 k/\Below w.heap.size w wr/\wr.ownsRow w.heap.size 3 1 ov (bV rp.evs k).length ((bV rp.evs k).map dW)) (λ_ i _=>en - (intOf i).toNat)
 case atStart=>exact⟨0,Nat.zero_le _,rfl,Gr.refl _,World.ownsRow_nil _ _ _ _⟩
 case round=>
  obtain⟨k,hk,rfl,hb,hrow⟩:=hrel
  obtain⟨wo,rfl⟩:∃ wo,wo=wr:=⟨_,rfl⟩
  by_cases hlt:k<en
  ·obtain⟨g,la,lc,ka,kc,rfl,hgl,e0,e1,e2,e3,e4,e5,e6,e7,hls,hks,hknil⟩:=Hrep.out.ev8 Hen.out hlt hb
   clear e0 e1 e2 e3 e4 e5 e6 hls
   have l1:(k:Int)<(en:Int):=by omega
   by_cases h0:(aB rp.evs k).key=[]
   ·rw [h0] at e7
    have e7':wo.cell? ⟨g,k*8+7,none⟩=some (.slice ka 0 kc):=e7
    have hok:bV rp.evs (k+1)=bV rp.evs k:=if_pos h0
    have Hok:=Lib.hid hok;have Hb:=Lib.hid hb;have Hrow:=Lib.hid hrow
    clear hok hb hrow h0 hks hknil e7 hgl
    go_wp2
    go_roundw
    case rel=>exact⟨k+1,by omega,by go_num,Hb.out,by rw [Hok.out];exact Hrow.out⟩
    case measure=>simp [intOf]<;>omega
   ·obtain⟨kn,hkn⟩:∃ kn,kn=(aB rp.evs k).key.length:=⟨_,rfl⟩
    rw [<-hkn] at e7
    have BX:¬ (kn:Int)=0:=by
     have:kn≠0:=by rw [hkn];intro h;exact h0 (List.eq_nil_of_length_eq_zero h)
     omega
    obtain⟨out,hout⟩:∃ out,out=bV rp.evs k:=⟨_,rfl⟩
    have hok:bV rp.evs (k+1)=wS rp.evs out k:=by rw [hout];exact if_neg h0
    have hol:out.length<=k:=by rw [hout];exact jS _ _
    have hom:∀ x∈out,x<k:=λx hx=>(((iD rp.evs k).2 x).1 (by rw [<-hout];exact hx)).1
    rw [<-hout] at hrow
    obtain⟨ao,co,rfl⟩:=fO hrow
    obtain⟨on,hon⟩:∃ on,on=out.length:=⟨_,rfl⟩
    rw [<-hon] at hrow hol ⊢
    have Hon:=Lib.hid hon
    clear hon
    have Hkn:=Lib.hid hkn;have Hok:=Lib.hid hok;have Hb:=Lib.hid hb;have Hrow:=Lib.hid hrow;have Hom:=Lib.hid hom;have Hks:=Lib.hid hks;have Hgl:=Lib.hid hgl
    have HE7:=Lib.hid e7
    clear hkn hok hb hrow h0 hks hknil hout hom hgl
    go_wp2_with (at_builtin;refine wpList_append_own _ rfl _ _ 24 rfl w.heap.size 3 i0 (.int .i64 0) 1 8 Try.underlying24 hi hz0 hz1 hz2 rfl (by decide) _ _ _ rfl (Hrow.out.alloc _) ⟨wo.heap.size,0,none⟩ 1 1 [.int .i64 (k:Int)] rfl rfl ?c1 ?c2 ?c3 ?c4 ?c5 ?_)
    case c1=>exact cell_one_new _ _ _
    case c2=>simp [Value.oneCell']
    case c3=>unfold maxLen;omega
    case c4=>omega
    case c5=>rw [World.size_alloc];exact Nat.le_trans Hb.out.size (Nat.le_succ _)
    intro o' wa hown' hgrow _
    obtain⟨q,cp,rfl,hq1,hq2,hq3⟩:=sH hown'
    have hca:Chg (λb=>w.heap.size<=b) wo wa:=((Chg.refl _ wo).alloc _).grown hgrow (λq hq=>.inl (Hrow.out.lt q hq).1)
    have hba:Below w.heap.size w wa:=Hb.out.trans (hca.below (λk h=>h) Hb.out.size)
    have QF:wa.ownsRow w.heap.size 3 1 (.slice (some ⟨q,0,none⟩) (on+1) cp) (on+1) ((kV out on k).map dW):=by
     rw [Hon.out,EZ,List.map_append,<-Hon.out];exact hown'
    have fin:∀(k' y:Nat) (u:World),k'<=on->gD rp.evs out k on=k'->Below w.heap.size w u->u.ownsRow w.heap.size 3 1 (.slice (some ⟨q,0,none⟩) (on+1) cp) (on+1) ((kV out k' y).map dW)->
      Below w.heap.size w (u.setCell ⟨q,k',none⟩ (.int .i64 (k:Int)))/\(u.setCell ⟨q,k',none⟩ (.int .i64 (k:Int))).ownsRow w.heap.size 3 1 (.slice (some ⟨q,0,none⟩) (on+1) cp) (bV rp.evs (k+1)).length ((bV rp.evs (k+1)).map dW):=by
     intro k' y u hk' hins hbu hru
     have e1:bV rp.evs (k+1)=kV out k' k:=by rw [Hok.out,<-hins,Hon.out];rfl
     have e2:(kV out k' k).length=on+1:=by rw [Hon.out];exact KZ (by rw [<-Hon.out];exact hk')
     refine⟨hbu.trans ⟨rfl,rfl,rfl,by simp [World.setCell],λb hb=>aL (by omega) _ _⟩,?_⟩
     rw [e1,e2]
     have h3:=pI hru k' (.int .i64 (k:Int))
     rw [xX,yX (by rw [<-Hon.out];exact hk')] at h3
     exact h3
    have Fin:=Lib.hid fin;have Hba:=Lib.hid hba;have Hrow0:=Lib.hid QF;have Hq1:=Lib.hid hq1
    have ZC:on<=9223372036854775806:=by omega
    clear hown' hgrow hca fin hba QF hq1 hq2 BX e7 Hb Hrow Hks Hgl HE7
    go_wp2
    go_loopw [5] (λkv wq=>∃ k' y:Nat,k'<=on/\kv=.int .i64 k'/\gD rp.evs out k k'=gD rp.evs out k on/\Below w.heap.size w wq/\wq.ownsRow w.heap.size 3 1 (.slice (some ⟨q,0,none⟩) (on+1) cp) (on+1) ((kV out k' y).map dW)) (λkv _=>(intOf kv).toNat)
    case atStart=>exact⟨on,k,Nat.le_refl _,rfl,rfl,Hba.out,Hrow0.out⟩
    case round=>
     obtain⟨k',y,hk',rfl,hins,hbi,hri⟩:=hrel
     obtain⟨wi,rfl⟩:∃ wi,wi=wr:=⟨_,rfl⟩
     have hon:=Hon.out
     have hyc:=lX hri (sN (wJ (y:=y) (by omega:k'<=out.length)))
     obtain⟨hc0,hf0⟩:=hyc
     cases k' with
     | zero=>
      have Hz:=Lib.hid (λnq=>Fin.out 0 y (wi.drewN nq) (by omega) (by rw [<-hins];rfl) (below_drewN hbi nq) (fJ hri ((Chg.refl (λ_=>False) wi).drewN nq) (λ_ _ h=>h)))
      have l0:¬ (0:Int)<((0:Nat):Int):=by omega
      clear hins hbi hri hon
      go_wp2_with fail
      go_quiet (fail)
      have hc1:(wi.drewN nq).cell? ⟨q,0,none⟩=some (.int .i64 (y:Int)):=hc0
      have hf1:(wi.drewN nq).frozen? ⟨q,0,none⟩=false:=hf0
      clear hc0 hf0
      go_wp2
      go_roundw
      case rel=>exact⟨k+1,by omega,by go_num,(Hz.out nq).1,(Hz.out nq).2⟩
      case measure=>simp [intOf]<;>omega
     | succ j=>
      have hlt':k<en:=hlt
      obtain⟨g1,Bb,Ay,XJ,XX,WE,TF,e0,e1,e2,e3,e4,e5,e6,e7,hls,TN,hknil⟩:=Hrep.out.ev8 Hen.out hlt hbi
      cases WE
      clear e0 e1 e2 e3 e4 e5 e6 hls hknil
      obtain⟨x,hx⟩:∃ x,x=out.getD j 0:=⟨_,rfl⟩
      have hxk:x<k:=by
       rw [hx]
       refine Hom.out _ ?_
       have hj:j<out.length:=by omega
       rw [List.getD_eq_getElem?_getD,List.getElem?_eq_getElem hj]
       exact List.getElem_mem hj
      obtain⟨g2,SA,RZ,SY,TB,WA,RQ,e0,e1,e2,e3,e4,e5,e6,f7,hls,IX,hknil⟩:=Hrep.out.ev8 Hen.out (show x<en by omega) hbi
      cases WA
      clear e0 e1 e2 e3 e4 e5 e6 hls hknil
      have A:=Lib.hid (λ(u:World) (h:Below wi.heap.size wi u)=>ES (aB rp.evs k).key (aB rp.evs x).key XJ SY XX TB u (TN.grown h) (IX.grown h))
      have hjc:=(lX hri (sN (NH (y:=y) (by omega:j<out.length)))).1
      rw [<-hx] at hjc
      have hstep:gD rp.evs out k (j+1)=if bT (aB rp.evs k).key (aB rp.evs x).key then gD rp.evs out k j else j+1:=by rw [hx];rfl
      obtain⟨cb,hcb⟩:∃ cb,cb=bT (aB rp.evs k).key (aB rp.evs x).key:=⟨_,rfl⟩
      rw [<-hcb] at hstep A
      obtain⟨k1,hk1⟩:∃ k1,k1=(aB rp.evs k).key.length:=⟨_,rfl⟩
      obtain⟨k2,hk2⟩:∃ k2,k2=(aB rp.evs x).key.length:=⟨_,rfl⟩
      rw [<-hk1] at e7 A
      rw [<-hk2] at f7 A
      have l0:(0:Int)<((j+1:Nat):Int):=by omega
      have lj:IntKind.i64.wrap (((j+1:Nat):Int) - 1)=(j:Int):=by rw [IntKind.wrap_i64];omega
      have Hst:=Lib.hid hstep;have Hins:=Lib.hid hins;have Hbi:=Lib.hid hbi;have Hri:=Lib.hid hri;have Hx:=Lib.hid hx
      have hgi:g<wi.heap.size:=TF
      have hqi:=(sH hri).choose_spec
      have ZL:(j:Int)<(on:Int)+1:=by omega
      have lj2:IntKind.i64.wrap ((j:Int)+1 - 1)=(j:Int):=by rw [IntKind.wrap_i64];omega
      have Bh:IntKind.i64.wrap (j:Int)=(j:Int):=by rw [IntKind.wrap_i64];omega
      have l02:(0:Int)<(j:Int)+1:=by omega
      have hxe:(x:Int)<(en:Int):=by omega
      have hjo:(j:Int)<((on+1:Nat):Int):=by omega
      clear hstep hins hbi hri hk1 hk2 hcb TN IX hon TF RQ hqi hxk hx
      go_wp2_with fail
      go_region_held3 (λu=>u.cell? ⟨g,k*8+7,none⟩=some (.slice XJ k1 XX)/\u.cell? ⟨q,j,none⟩=some (.int .i64 (x:Int))/\u.cell? ⟨g,x*8+7,none⟩=some (.slice SY k2 TB))
       (first|exact⟨e7,hjc,f7⟩|go_keep)
       ((go_at_call 68;refine(A.out _ ?_).mono ?_;(exact(Gr.refl _).drew);rintro e w4 ⟨rfl,hb4⟩;replace hb4:=qO hb4;have y1:=(hb4.cell (World.block_lt_of_cell? _ _ e7)).trans e7;have y2:=(hb4.cell (World.block_lt_of_cell? _ _ hjc)).trans hjc;have y3:=(hb4.cell (World.block_lt_of_cell? _ _ f7)).trans f7))
      have JI:=gK Hri.out hb4
      have PW:=Gr.trans Hbi.out hb4
      obtain⟨z0,zf⟩:=lX JI (sN (wJ (y:=y) (by have:=Hon.out;omega:j+1<=out.length)))
      cases cb with
      | true=>
       have hst:gD rp.evs out k (j+1)=gD rp.evs out k j:=Hst.out.trans (if_pos rfl)
       have eD:(w4.setCell ⟨q,j+1,none⟩ (.int .i64 (x:Int))).ownsRow w.heap.size 3 1 (.slice (some ⟨q,0,none⟩) (on+1) cp) (on+1) ((kV out j x).map dW):=by
        have h3:=pI JI (j+1) (.int .i64 (x:Int))
        rw [xX,yX (by have:=Hon.out;omega),Hx.out,FF (by have:=Hon.out;omega),<-Hx.out] at h3
        exact h3
       have Hn:=Lib.hid (show j<=on/\gD rp.evs out k j=gD rp.evs out k on/\Below w.heap.size w (w4.setCell ⟨q,j+1,none⟩ (.int .i64 (x:Int))) from⟨by omega,hst.symm.trans Hins.out,PW.trans ⟨rfl,rfl,rfl,by simp [World.setCell],λb hb=>aL (by have:=Hq1.out;omega) _ _⟩⟩)
       have Hr5:=Lib.hid eD
       clear JI PW hst eD hc0 hf0 e7 f7 hjc y1 y3 hb4
       go_wp2
       go_roundw
       case rel=>exact⟨j,x,Hn.out.1,by go_num,Hn.out.2.1,Hn.out.2.2,Hr5.out⟩
       case measure=>simp [intOf]<;>omega
      | false=>
       have hst:gD rp.evs out k (j+1)=j+1:=Hst.out.trans (if_neg (by simp))
       have Hz:=Lib.hid (Fin.out (j+1) y w4 hk' (Hins.out.symm.trans hst) PW JI)
       clear JI PW hst hc0 hf0 e7 f7 hjc y1 y2 y3 hb4
       go_wp2
       go_roundw
       case rel=>exact⟨k+1,by omega,by go_num,Hz.out.1,Hz.out.2⟩
       case measure=>simp [intOf]<;>omega
  ·have l1:¬ (k:Int)<(en:Int):=by omega
   obtain rfl:k=en:=by omega
   have hol:=jS rp.evs k
   obtain⟨ao,co,rfl,hsl,hfr⟩:=nJ (g:=xK (bV rp.evs k)) hrow (by unfold maxLen;omega) (λj hj=>by simp [xK,dW,List.getD_eq_getElem?_getD,hj])
   have e1:bV rp.evs k=dD rp.evs:=by rw [Hen.out];rfl
   rw [e1] at hsl ⊢
   have Hsl:=Lib.hid hsl;have Hb:=Lib.hid hb
   clear hrow hsl hb hol e1
   go_wp2
   go_ret
   exact⟨ao,⟨co,rfl⟩,Hsl.out,hfr,Hb.out⟩
end
section
open Go.RowKit
structure CU (w:World) (bS:Nat) (kd P Q:Int):Prop where
 blk:w.heap[bS]?=some (.cells #[.int .i64 kd,.int .i64 P,.int .i64 Q] 51 (0,0))
theorem CU.grown {w w':World} {bS:Nat} {kd P Q:Int} (h:CU w bS kd P Q) (hb:Below w.heap.size w w'):CU w' bS kd P Q:=⟨(hb.block _ (aH h.blk)).trans h.blk⟩
end
section
open Go.RowKit
end
section
open Go.RowKit
end
section
open Go.RowKit
end
section
open Go.RowKit
theorem mD {ops:Array Oper} {rest:List Oper} {o:Oper} {a:Act} {w:World} {Q:Exit->Act->World->Prop} (hgd:o.guard=none) (s x:Operand) (ho:o.op=.call { callee:=.builtin .append,args:=#[s,x],argTypes:=#[24,24] })
  (v:Value) (l:List Int) (N:Nat) (hN:N=l.length) (hl:N<=1000000) (hs:a.eval s=v) (hown:w.ownsRow 0 3 1 v N (l.map (Value.int .i64))) (b:Nat) (k:Int) (hx:a.eval x=.slice (some ⟨b,0,none⟩) 1 1) (hb:w.heap[b]?=some (.cells #[.int .i64 k] 3 (0,0)))
  (h:∀(g vc M:Nat) (w':World),M=N+1->w'.ownsRow 0 3 1 (.slice (some ⟨g,0,none⟩) M vc) M ((l++[k]).map (Value.int .i64))->Chg (λb=>v.ownBlock=some b) w w'->(v.ownBlock=some g∨g=w.heap.size)->g<w'.heap.size->wpList Try.prog ops Q rest (a.put o.dst (.slice (some ⟨g,0,none⟩) M vc)) w') :
  wpList Try.prog ops Q (o::rest) a w:=by
 obtain⟨j0,hj0,hy0,hy1,hy2⟩:=info_parts qJ
 refine wpList_append_lies w hgd s x 24 ho 0 3 j0 (.int .i64 0) 1 8 Try.underlying24 hj0 hy0 hy1 hy2 rfl (by decide) v N (l.map (Value.int .i64)) hs hown ⟨b,0,none⟩ 1 1 [.int .i64 k] hx rfl ?_ ?_ (by decide) ?_ ?_ (Nat.zero_le _) w.heap.size rfl ?_
 ·intro j u hu
  have e8:(⟨b,0,none⟩:Addr).add j=⟨b,j,none⟩:=nL b j
  rw [e8,aA hb]
  simpa using hu
 ·simp [Value.oneCell']
 ·unfold maxLen;omega
 ·omega
 ·intro g cap w' hown' hgr hat hlt
  have hc:Chg (λb=>v.ownBlock=some b) w w':=(Chg.refl _ w).grown hgr (λk hk=>.inl hk)
  have e2:l.map (Value.int .i64)++[.int .i64 k]=(l++[k]).map (Value.int .i64):=by simp
  rw [e2] at hown'
  exact h g cap (N+1) w' rfl hown' hc hat hlt
end
section
open Go.RowKit
theorem rY {ops:Array Oper} {rest:List Oper} {o:Oper} {a:Act} {w:World} {Q:Exit->Act->World->Prop} (hgd:o.guard=none) (s x:Operand) (ho:o.op=.call { callee:=.builtin .append,args:=#[s,x],argTypes:=#[28,28] })
  (v:Value) (l:List Nat) (N:Nat) (hN:N=l.length) (hl:N<=1000000) (hs:a.eval s=v) (hown:w.ownsRow 0 40 1 v N (l.map cZ)) (b:Nat) (k:Nat) (hx:a.eval x=.slice (some ⟨b,0,none⟩) 1 1) (hb:w.heap[b]?=some (.cells #[cZ k] 40 (0,0)))
  (h:∀(g vc M:Nat) (w':World),M=N+1->w'.ownsRow 0 40 1 (.slice (some ⟨g,0,none⟩) M vc) M ((l++[k]).map cZ)->Chg (λb=>v.ownBlock=some b) w w'->(v.ownBlock=some g∨g=w.heap.size)->g<w'.heap.size->wpList Try.prog ops Q rest (a.put o.dst (.slice (some ⟨g,0,none⟩) M vc)) w') :
  wpList Try.prog ops Q (o::rest) a w:=by
 obtain⟨j0,hj0,hy0,hy1,hy2⟩:=info_parts jN
 refine wpList_append_lies w hgd s x 28 ho 0 40 j0 (.int .u64 0) 1 8 Try.underlying28 hj0 hy0 hy1 hy2 rfl (by decide) v N (l.map cZ) hs hown ⟨b,0,none⟩ 1 1 [cZ k] hx rfl ?_ ?_ (by decide) ?_ ?_ (Nat.zero_le _) w.heap.size rfl ?_
 ·intro j u hu
  have e8:(⟨b,0,none⟩:Addr).add j=⟨b,j,none⟩:=nL b j
  rw [e8,aA hb]
  simpa [cZ] using hu
 ·simp [Value.oneCell',cZ]
 ·unfold maxLen;omega
 ·omega
 ·intro g cap w' hown' hgr hat hlt
  have hc:Chg (λb=>v.ownBlock=some b) w w':=(Chg.refl _ w).grown hgr (λk hk=>.inl hk)
  have e2:l.map cZ++[cZ k]=(l++[k]).map cZ:=by simp
  rw [e2] at hown'
  exact h g cap (N+1) w' rfl hown' hc hat hlt
end
section
open Go.RowKit
variable {w w' w1:World} {V V':Value} {l:List Nat}
def gN (w:World) (V:Value) (l:List Nat):Prop:=w.ownsRow 0 40 1 V l.length (l.map cZ)
theorem gN.at (h:gN w V l) {i:Nat} (hi:i<l.length):∃ g c,V=.slice (some ⟨g,0,none⟩) l.length c/\w.cell? ⟨g,i,none⟩=some (.int .u64 ((l.getD i 0:Nat):Int))/\w.frozen? ⟨g,i,none⟩=false/\g<w.heap.size:=by
 have hc:=h
 obtain⟨h1,h2⟩:=h
 rcases h2 with⟨_,hn⟩|⟨g,cap,cur,hv,hg,hh,r1,r2,r3,r4⟩
 ·omega
 ·subst hv
  refine⟨g,cap,rfl,?_,aC hh i,aH hh⟩
  have:=hc.cellAt i (by omega)
  rw [this,List.getElem?_map,List.getElem?_eq_getElem hi,List.getD_eq_getElem?_getD,List.getElem?_eq_getElem hi]
  rfl
theorem gN.form (h:gN w V l):∃ a c,V=.slice a l.length c:=fO h
theorem gN.lt (h:gN w V l) (b:Nat) (hb:V.ownBlock=some b):b<w.heap.size:=by
 obtain⟨cs,fz,h9⟩:=mQ h hb
 exact aH h9
theorem gN.chg {S:Nat->Prop} (h:gN w V l) (hc:Chg S w w') (hS:∀ b,V.ownBlock=some b->¬ S b):gN w' V l:=fJ h hc hS
theorem gN.sl (h:gN w V l) (hl:l.length<=1000000):∃ a c,V=.slice a l.length c/\aW w a l.length 1 (dY l)/\∀ b off,a=some ⟨b,off,none⟩->V.ownBlock=some b:=by
 obtain⟨a,c,rfl⟩:=h.form
 exact⟨a,c,rfl,(tQ h (by unfold maxLen;omega) (g:=dY l) (λj hj=>by simp [dY,cZ,List.getD_eq_getElem?_getD,hj])).1,λb off e=>by rw [e];rfl⟩
theorem gN.nil (w:World):gN w (.slice none 0 0) []:=⟨by decide,.inl ⟨rfl,rfl⟩⟩
end
section
open Go.RowKit
def tV (M:Int->Option Value) (k:Int) (v:Value):Int->Option Value:=λx=>if x=k then some v else M x
def MapOf (z:Value) (w:World) (b n:Nat) (M:Int->Option Value):Prop:=
 ∃ D:DataW Value,w.ownsMap Try.prog 3 RV b n D/\Maps.IsMap D/\∀ key,Maps.has D (.int .i64 key)=(M key).isSome/\D.atKey (.int .i64 key) (.held z)=.held ((M key).getD z)
variable {z:Value} {w w':World} {b n:Nat} {M:Int->Option Value}
theorem MapOf.made (z:Value) (w:World):MapOf z (w.alloc (.map #[] 0)) w.heap.size 0 (λ_=>none):=
 ⟨.map [],World.ownsMap_made _ _ _ _,Maps.isMap_empty,λ_=>⟨rfl,rfl⟩⟩
theorem MapOf.lt (h:MapOf z w b n M):b<w.heap.size:=by obtain⟨D,h1,_⟩:=h;exact h1.lt
theorem MapOf.block (h:MapOf z w b n M) (hb:w'.heap[b]?=w.heap[b]?):MapOf z w' b n M:=by
 obtain⟨D,⟨es,clock,h1,h3⟩,h2⟩:=h
 exact⟨D,⟨es,clock,hb.trans h1,h3⟩,h2⟩
theorem MapOf.ty (h:MapOf z w b n M):∃ es clock,w.heap[b]?=some (.map es clock):=by
 obtain⟨D,⟨es,clock,h1,_⟩,_⟩:=h
 exact⟨es,clock,h1⟩
theorem MapOf.look (h:MapOf z w b n M) {T e:TypeId} (hT:Try.prog.underlying T=some (.map 3 e)) (hz:(zeroValue e).run Try.prog w=.ok z w) {key:Int} (hw:(Lit.int .i64 key).wf=true) :
  (Instr.lookup T (.map (some b)) (.int .i64 key) false).run Try.prog w=.ok ((M key).getD z) w:=by
 obtain⟨D,h1,_,h2⟩:=h
 obtain⟨v,ps,hrun,hv⟩:=h1.lookup mZ hT hz (zd:=.held z) (zp:=[]) rfl (sP hw)
 rw [(h2 key).2] at hv
 simp only [RV,Option.some.injEq,Prod.mk.injEq,DataW.held.injEq] at hv
 rw [hrun,hv.1]
theorem MapOf.lookOk (h:MapOf z w b n M) {T e:TypeId} (hT:Try.prog.underlying T=some (.map 3 e)) (hz:(zeroValue e).run Try.prog w=.ok z w) {key:Int} (hw:(Lit.int .i64 key).wf=true) :
  (Instr.lookup T (.map (some b)) (.int .i64 key) true).run Try.prog w=.ok (.tuple #[(M key).getD z,.bool (M key).isSome]) w:=by
 obtain⟨D,h1,_,h2⟩:=h
 obtain⟨v,ps,hrun,hv⟩:=h1.look_ok mZ hT hz (zd:=.held z) (zp:=[]) rfl (sP hw)
 rw [(h2 key).2] at hv
 simp only [RV,Option.some.injEq,Prod.mk.injEq,DataW.held.injEq] at hv
 rw [hrun,hv.1,(h2 key).1]
theorem MapOf.put (h:MapOf z w b n M) {T e:TypeId} (hT:Try.prog.underlying T=some (.map 3 e)) (hn:n<maxLen) {key:Int} (hw:(Lit.int .i64 key).wf=true) (val:Value) :
  ∃ w',(Instr.mapUpdate T (.map (some b)) (.int .i64 key) val).run Try.prog w=.ok () w'/\MapOf z w' b (n+1) (tV M key val)/\w.grownBy w' (some b):=by
 obtain⟨D,h1,h3,h2⟩:=h
 obtain⟨w',hrun,h4,h5⟩:=h1.update mZ hT hn (sP hw) (val:=val) (d:=.held val) (ps:=[]) rfl
 refine⟨w',hrun,⟨_,h4,h3.put _ _,λk=>?_⟩,h5⟩
 by_cases hk:k=key
 ·subst hk
  rw [Maps.has_put_same h3 uU,Maps.atKey_put_same h3 uU]
  simp [tV]
 ·rw [Maps.has_put_other (by simpa using hk),Maps.atKey_put_other (by simpa using hk),(h2 k).1,(h2 k).2]
  simp [tV,hk]
theorem vJ (w:World) {T e:TypeId} (hT:Try.prog.underlying T=some (.map 3 e)) {ops:Array Oper} {rest:List Oper} {o:Oper} {a:Act} {Q:Exit->Act->World->Prop}
  (hg:o.guard=none) (m x v:Operand) (hop:o.op=Op.mapUpdate T m x v) (z:Value) (b n:Nat) (M:Int->Option Value)
  (hm:a.eval m=.map (some b)) (hown:MapOf z w b n M) (hn:n<maxLen) (key:Int) (val:Value) (hx:a.eval x=.int .i64 key) (hv:a.eval v=val) (hw:(Lit.int .i64 key).wf=true)
  (hK:∀ w',MapOf z w' b (n+1) (tV M key val)->w.grownBy w' (some b)->wpList Try.prog ops Q rest (a.put o.dst undef) w') :
  wpList Try.prog ops Q (o::rest) a w:=by
 refine wpList_plain hg λK' hK'=>?_
 obtain⟨w',hrun,r1,r2⟩:=hown.put hT hn hw val
 unfold Oper.wp
 simp [execOp,hop,hm,hx,hv,hrun,Result.andThen]
 exact hK' _ _ (hK w' r1 r2)
end
section
open Go.RowKit
section
variable {w w':World} {b bP:Nat} {s:ScD} {lv:Value}
end
end
section
open Go.RowKit
end
section
open Go.RowKit
end
section
open Go.RowKit
theorem BJ {l:List Nat}:∀ v∈l.map cZ,v.oneCell'=true:=λv hv=>by
 obtain⟨y,_,rfl⟩:=List.mem_map.1 hv;rfl
end
section
open Go.RowKit
def pR (w':World) (Mut:Nat->Prop) (I:eO) (N:Nat) (wd':WD) (lv':Value):Prop:=
 ∃(w1:World) (S:Nat->Prop),aT w1 Mut I N wd'/\Chg S w1 w'/\(∀ b,S b->Mut b/\¬ bC I b)/\∀ g,lv'.ownBlock=some g->Mut g∨w1.heap.size<=g
section
variable {w' w'':World} {Mut:Nat->Prop} {I:eO} {N:Nat} {wd':WD} {lv':Value}
theorem pR.toAt (h:pR w' Mut I N wd' lv'):aT w' Mut I N wd':=by
 obtain⟨w1,S,h1,h2,h3,_⟩:=h
 exact h1.keep h2 (λb hb=>(h3 b hb).1) (λb hb=>(h3 b hb).2) (bE.refl _ _) (λb hb=>Nat.lt_of_lt_of_le (h1.low b hb) h2.size) h1.muts
theorem pR.up (h:pR w' Mut I N wd' lv') {Mut':Nat->Prop} (hm:∀ b,Mut' b->Mut b∨lv'.ownBlock=some b) (hl:∀ b,Mut' b->b<w'.heap.size) (hW:∀ b,bC I b->Mut' b):aT w' Mut' I N wd':=by
 obtain⟨w1,S,h1,h2,h3,h4⟩:=h
 refine h1.keep h2 (λb hb=>(h3 b hb).1) (λb hb=>(h3 b hb).2) (λb hb=>?_) hl hW
 rcases hm b hb with h|h
 ·exact .inl h
 ·exact h4 b h
theorem pR.go (h:pR w' Mut I N wd' lv') {S':Nat->Prop} (hc:Chg S' w' w'') (hS:∀ b,S' b->Mut b/\¬ bC I b):pR w'' Mut I N wd' lv':=by
 obtain⟨w1,S,h1,h2,h3,h4⟩:=h
 exact⟨w1,λb=>S b∨S' b,h1,(h2.mono (λ_ _ h=>.inl h)).trans (hc.mono (λ_ _ h=>.inr h)),λb hb=>hb.elim (h3 b) (hS b),h4⟩
theorem pR.of (h:aT w' Mut I N wd') (ho:∀ g,lv'.ownBlock=some g->Mut g):pR w' Mut I N wd' lv':=
 ⟨w',noB,h,Chg.refl _ _,λ_ h=>h.elim,λg hg=>.inl (ho g hg)⟩
end
end
end Go.Proofs.Ytifhldnmcdbpfaa
