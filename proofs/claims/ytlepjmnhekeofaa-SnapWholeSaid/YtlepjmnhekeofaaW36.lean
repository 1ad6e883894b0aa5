/- Layer 6: the walk of roundelayplain.Order. -/
import Derived.Test.YtlepjmnhekeofaaW35
import Derived.Test.YtlepjmnhekeofaaW02
import Derived.Deep.QuietTactic
set_option maxRecDepth 100000
set_option linter.unusedVariables false
set_option linter.unusedSimpArgs false
set_option linter.unnecessarySimpa false
namespace Go.Proofs.Ytlepjmnhekeofaa
section
open Go.RowKit
theorem row_put {w:World} {B:Nat} {e:TypeId} {g n cap:Nat} {xs:List Value} (h:w.ownsRow B e 1 (.slice (some ⟨g,0,none⟩) n cap) n xs) (j:Nat) (u:Value):(w.setCell ⟨g,j,none⟩ u).ownsRow B e 1 (.slice (some ⟨g,0,none⟩) n cap) n (xs.set j u):=by
 obtain⟨h1,h2⟩:=h
 rcases h2 with⟨hv,_⟩|⟨g',cap',cur,hv,hg,hh,r1,r2,r3,r4⟩
 ·cases hv
 ·cases hv
  refine⟨by simpa using h1,.inr ⟨g,cap,cur.setIfInBounds j u,rfl,hg,blk_set hh j u,r1,r2,by simpa using r3,?_⟩⟩
  rw [Array.toList_setIfInBounds,List.take_set,r4]
theorem row_at {w:World} {B:Nat} {e:TypeId} {g n cap:Nat} {xs:List Value} (h:w.ownsRow B e 1 (.slice (some ⟨g,0,none⟩) n cap) n xs) {j:Nat} {u:Value} (hj:xs[j]?=some u):w.cell? ⟨g,j,none⟩=some u/\w.frozen? ⟨g,j,none⟩=false:=by
 have hc:=h
 obtain⟨h1,h2⟩:=h
 rcases h2 with⟨hv,_⟩|⟨g',cap',cur,hv,hg,hh,r1,r2,r3,r4⟩
 ·cases hv
 ·cases hv
  refine⟨?_,frozen_blk hh j⟩
  have:=hc.cells (g:=g) rfl j _ hj
  rw [addr_add0] at this
  exact this
theorem row_own {w:World} {B:Nat} {e:TypeId} {v:Value} {n:Nat} {xs:List Value} (h:w.ownsRow B e 1 v (n+1) xs):∃ g cap,v=.slice (some ⟨g,0,none⟩) (n+1) cap/\B<=g/\g<w.heap.size/\n+1<=cap:=by
 obtain⟨h1,h2⟩:=h
 rcases h2 with⟨_,hn⟩|⟨g,cap,cur,hv,hg,hh,r1,_⟩
 ·cases hn
 ·exact⟨g,cap,hv,hg,blk_lt hh,r1⟩
def midK (out:List Nat) (k y:Nat):List Nat:=out.take k++y::out.drop k
theorem midK_len {out:List Nat} {k y:Nat} (h:k<=out.length):(midK out k y).length=out.length+1:=by
 unfold midK;rw [List.length_append,List.length_cons,List.length_take,List.length_drop];omega
theorem midK_get {out:List Nat} {k y:Nat} (h:k<out.length):(midK out (k+1) y)[k]?=some (out.getD k 0):=by
 unfold midK
 rw [List.getElem?_append_left (by rw [List.length_take];omega),List.getElem?_take_of_lt (by omega),List.getD_eq_getElem?_getD,List.getElem?_eq_getElem h];rfl
theorem midK_here {out:List Nat} {k y:Nat} (h:k<=out.length):(midK out k y)[k]?=some y:=by
 unfold midK
 rw [List.getElem?_append_right (by rw [List.length_take];omega),List.length_take,show k - min k out.length=0 by omega];rfl
theorem midK_put {out:List Nat} {k y z:Nat} (h:k<=out.length):(midK out k y).set k z=midK out k z:=by
 unfold midK
 rw [List.set_append_right _ _ (by rw [List.length_take];omega),List.length_take,show k - min k out.length=0 by omega];rfl
theorem midK_down {out:List Nat} {k:Nat} (h:k<out.length):midK out (k+1) (out.getD k 0)=midK out k (out.getD k 0):=by
 unfold midK
 have e1:out.getD k 0=out[k]:=by rw [List.getD_eq_getElem?_getD,List.getElem?_eq_getElem h];rfl
 rw [e1,List.take_succ_eq_append_getElem h,List.drop_eq_getElem_cons h,List.append_assoc];rfl
theorem midK_last (out:List Nat) (y:Nat):midK out out.length y=out++[y]:=by
 unfold midK;rw [List.take_length,List.drop_length]
theorem nats_set (l:List Nat) (k z:Nat):(l.map natV).set k (.int .i64 (z:Int))=(l.set k z).map natV:=by rw [List.map_set];rfl
theorem nats_get {l:List Nat} {k z:Nat} (h:l[k]?=some z):(l.map natV)[k]?=some (.int .i64 (z:Int)):=by rw [List.getElem?_map,h];rfl
set_option maxHeartbeats 8000000 in
theorem order_any {X:Nat->Prop} {B:Nat} (w:World) (ea va:Option Addr) (en ec vn vc:Nat) (ers:List (Value×Value)) (rp:RepD) (hrep:RepAt X B w (.slice ea en ec) (.slice va vn vc) ers rp) (hen:en=rp.evs.length) (hlen:rp.evs.length<1000000) :
  Calls Try.prog 50 #[.slice ea en ec] w λe w'=>∃ a c,e=.returned (.slice a (orderD rp.evs).length c)/\SlAt w' a (orderD rp.evs).length 1 (natG (orderD rp.evs))/\(∀ b off,a=some ⟨b,off,none⟩->w.heap.size<=b)/\Below w.heap.size w w':=by
 have henl:en<=9223372036854775807:=by omega
 have hen6:en<1000000:=by omega
 obtain⟨i0,hi,hz0,hz1,hz2⟩:=info_parts int_info0
 have Hrep:=Lib.hid hrep;have Hen:=Lib.hid hen;have Hlen:=Lib.hid hlen
 clear hrep hen hlen
 go_enter Try.func50,Try.ntmps50
 go_wp2
 go_loopw [3,8] (λov i wr=>∃ k:Nat,k<=en/\i=.int .i64 k/\Below w.heap.size w wr/\wr.ownsRow w.heap.size 3 1 ov (orderK rp.evs k).length ((orderK rp.evs k).map natV)) (λ_ i _=>en - (intOf i).toNat)
 case atStart=>exact⟨0,Nat.zero_le _,rfl,Gr.refl _,World.ownsRow_nil _ _ _ _⟩
 case round=>
  obtain⟨k,hk,rfl,hb,hrow⟩:=hrel
  obtain⟨wo,rfl⟩:∃ wo,wo=wr:=⟨_,rfl⟩
  by_cases hlt:k<en
  ·obtain⟨g,la,lc,ka,kc,rfl,hgl,e0,e1,e2,e3,e4,e5,e6,e7,hls,hks,hknil⟩:=Hrep.out.ev8 Hen.out hlt hb
   clear e0 e1 e2 e3 e4 e5 e6 hls
   have l1:(k:Int)<(en:Int):=by omega
   by_cases h0:(evAt rp.evs k).key=[]
   ·rw [h0] at e7
    have e7':wo.cell? ⟨g,k*8+7,none⟩=some (.slice ka 0 kc):=e7
    have hok:orderK rp.evs (k+1)=orderK rp.evs k:=if_pos h0
    have Hok:=Lib.hid hok;have Hb:=Lib.hid hb;have Hrow:=Lib.hid hrow
    clear hok hb hrow h0 hks hknil e7 hgl
    go_wp2
    go_roundw
    case rel=>exact⟨k+1,by omega,by go_num,Hb.out,by rw [Hok.out];exact Hrow.out⟩
    case measure=>simp [intOf]<;>omega
   ·obtain⟨kn,hkn⟩:∃ kn,kn=(evAt rp.evs k).key.length:=⟨_,rfl⟩
    rw [<-hkn] at e7
    have hkn0:¬ (kn:Int)=0:=by
     have:kn≠0:=by rw [hkn];intro h;exact h0 (List.eq_nil_of_length_eq_zero h)
     omega
    obtain⟨out,hout⟩:∃ out,out=orderK rp.evs k:=⟨_,rfl⟩
    have hok:orderK rp.evs (k+1)=insK rp.evs out k:=by rw [hout];exact if_neg h0
    have hol:out.length<=k:=by rw [hout];exact orderK_len _ _
    have hom:∀ x∈out,x<k:=λx hx=>(((orderK_spec rp.evs k).2 x).1 (by rw [<-hout];exact hx)).1
    rw [<-hout] at hrow
    obtain⟨ao,co,rfl⟩:=row_form hrow
    obtain⟨on,hon⟩:∃ on,on=out.length:=⟨_,rfl⟩
    rw [<-hon] at hrow hol ⊢
    have Hon:=Lib.hid hon
    clear hon
    have Hkn:=Lib.hid hkn;have Hok:=Lib.hid hok;have Hb:=Lib.hid hb;have Hrow:=Lib.hid hrow;have Hom:=Lib.hid hom;have Hks:=Lib.hid hks;have Hgl:=Lib.hid hgl
    have HE7:=Lib.hid e7
    clear hkn hok hb hrow h0 hks hknil hout hom hgl
    go_wp2_with (at_builtin;refine wpList_append_own _ rfl _ _ 24 rfl w.heap.size 3 i0 (.int .i64 0) 1 8 Try.underlying24 hi hz0 hz1 hz2 rfl (by decide) _ _ _ rfl (Hrow.out.alloc _) ⟨wo.heap.size,0,none⟩ 1 1 [.int .i64 (k:Int)] rfl rfl ?c1 ?c2 ?c3 ?c4 ?c5 ?_)
    case c1=>exact cell_one_new _ _ _
    case c2=>simp [Value.oneCell']
    case c3=>unfold maxLen;omega
    case c4=>omega
    case c5=>rw [World.size_alloc];exact Nat.le_trans Hb.out.size (Nat.le_succ _)
    intro o' wa hown' hgrow _
    obtain⟨q,cp,rfl,hq1,hq2,hq3⟩:=row_own hown'
    have hca:Chg (λb=>w.heap.size<=b) wo wa:=((Chg.refl _ wo).alloc _).grown hgrow (λq hq=>.inl (Hrow.out.lt q hq).1)
    have hba:Below w.heap.size w wa:=Hb.out.trans (hca.below (λk h=>h) Hb.out.size)
    have hrow0:wa.ownsRow w.heap.size 3 1 (.slice (some ⟨q,0,none⟩) (on+1) cp) (on+1) ((midK out on k).map natV):=by
     rw [Hon.out,midK_last,List.map_append,<-Hon.out];exact hown'
    have fin:∀(k' y:Nat) (u:World),k'<=on->insAt rp.evs out k on=k'->Below w.heap.size w u->u.ownsRow w.heap.size 3 1 (.slice (some ⟨q,0,none⟩) (on+1) cp) (on+1) ((midK out k' y).map natV)->
      Below w.heap.size w (u.setCell ⟨q,k',none⟩ (.int .i64 (k:Int)))/\(u.setCell ⟨q,k',none⟩ (.int .i64 (k:Int))).ownsRow w.heap.size 3 1 (.slice (some ⟨q,0,none⟩) (on+1) cp) (orderK rp.evs (k+1)).length ((orderK rp.evs (k+1)).map natV):=by
     intro k' y u hk' hins hbu hru
     have e1:orderK rp.evs (k+1)=midK out k' k:=by rw [Hok.out,<-hins,Hon.out];rfl
     have e2:(midK out k' k).length=on+1:=by rw [Hon.out];exact midK_len (by rw [<-Hon.out];exact hk')
     refine⟨hbu.trans ⟨rfl,rfl,rfl,by simp [World.setCell],λb hb=>blk_set_other (by omega) _ _⟩,?_⟩
     rw [e1,e2]
     have h3:=row_put hru k' (.int .i64 (k:Int))
     rw [nats_set,midK_put (by rw [<-Hon.out];exact hk')] at h3
     exact h3
    have Fin:=Lib.hid fin;have Hba:=Lib.hid hba;have Hrow0:=Lib.hid hrow0;have Hq1:=Lib.hid hq1
    have hol2:on<=9223372036854775806:=by omega
    clear hown' hgrow hca fin hba hrow0 hq1 hq2 hkn0 e7 Hb Hrow Hks Hgl HE7
    go_wp2
    go_loopw [5] (λkv wq=>∃ k' y:Nat,k'<=on/\kv=.int .i64 k'/\insAt rp.evs out k k'=insAt rp.evs out k on/\Below w.heap.size w wq/\wq.ownsRow w.heap.size 3 1 (.slice (some ⟨q,0,none⟩) (on+1) cp) (on+1) ((midK out k' y).map natV)) (λkv _=>(intOf kv).toNat)
    case atStart=>exact⟨on,k,Nat.le_refl _,rfl,rfl,Hba.out,Hrow0.out⟩
    case round=>
     obtain⟨k',y,hk',rfl,hins,hbi,hri⟩:=hrel
     obtain⟨wi,rfl⟩:∃ wi,wi=wr:=⟨_,rfl⟩
     have hon:=Hon.out
     have hyc:=row_at hri (nats_get (midK_here (y:=y) (by omega:k'<=out.length)))
     obtain⟨hc0,hf0⟩:=hyc
     cases k' with
     | zero=>
      have Hz:=Lib.hid (λnq=>Fin.out 0 y (wi.drewN nq) (by omega) (by rw [<-hins];rfl) (below_drewN hbi nq) (row_chg hri ((Chg.refl (λ_=>False) wi).drewN nq) (λ_ _ h=>h)))
      have l0:¬ (0:Int)<((0:Nat):Int):=by omega
      clear hins hbi hri hon
      go_wp2_with fail
      go_quiet (fail)
      have hc1:(wi.drewN nq).cell? ⟨q,0,none⟩=some (.int .i64 (y:Int)):=hc0
      have hf1:(wi.drewN nq).frozen? ⟨q,0,none⟩=false:=hf0
      clear hc0 hf0
      go_wp2
      go_roundw
      case rel=>exact⟨k+1,by omega,by go_num,(Hz.out nq).1,(Hz.out nq).2⟩
      case measure=>simp [intOf]<;>omega
     | succ j=>
      have hlt':k<en:=hlt
      obtain⟨g1,la1,lc1,ka1,kc1,hgg1,hgl1,e0,e1,e2,e3,e4,e5,e6,e7,hls,hks1,hknil⟩:=Hrep.out.ev8 Hen.out hlt hbi
      cases hgg1
      clear e0 e1 e2 e3 e4 e5 e6 hls hknil
      obtain⟨x,hx⟩:∃ x,x=out.getD j 0:=⟨_,rfl⟩
      have hxk:x<k:=by
       rw [hx]
       refine Hom.out _ ?_
       have hj:j<out.length:=by omega
       rw [List.getD_eq_getElem?_getD,List.getElem?_eq_getElem hj]
       exact List.getElem_mem hj
      obtain⟨g2,la2,lc2,ka2,kc2,hgg2,hgl2,e0,e1,e2,e3,e4,e5,e6,f7,hls,hks2,hknil⟩:=Hrep.out.ev8 Hen.out (show x<en by omega) hbi
      cases hgg2
      clear e0 e1 e2 e3 e4 e5 e6 hls hknil
      have A:=Lib.hid (λ(u:World) (h:Below wi.heap.size wi u)=>ahead_any (evAt rp.evs k).key (evAt rp.evs x).key ka1 ka2 kc1 kc2 u (hks1.grown h) (hks2.grown h))
      have hjc:=(row_at hri (nats_get (midK_get (y:=y) (by omega:j<out.length)))).1
      rw [<-hx] at hjc
      have hstep:insAt rp.evs out k (j+1)=if keyLt (evAt rp.evs k).key (evAt rp.evs x).key then insAt rp.evs out k j else j+1:=by rw [hx];rfl
      obtain⟨cb,hcb⟩:∃ cb,cb=keyLt (evAt rp.evs k).key (evAt rp.evs x).key:=⟨_,rfl⟩
      rw [<-hcb] at hstep A
      obtain⟨k1,hk1⟩:∃ k1,k1=(evAt rp.evs k).key.length:=⟨_,rfl⟩
      obtain⟨k2,hk2⟩:∃ k2,k2=(evAt rp.evs x).key.length:=⟨_,rfl⟩
      rw [<-hk1] at e7 A
      rw [<-hk2] at f7 A
      have l0:(0:Int)<((j+1:Nat):Int):=by omega
      have lj:IntKind.i64.wrap (((j+1:Nat):Int) - 1)=(j:Int):=by rw [IntKind.wrap_i64];omega
      have Hst:=Lib.hid hstep;have Hins:=Lib.hid hins;have Hbi:=Lib.hid hbi;have Hri:=Lib.hid hri;have Hx:=Lib.hid hx
      have hgi:g<wi.heap.size:=hgl1
      have hqi:=(row_own hri).choose_spec
      have hjo2:(j:Int)<(on:Int)+1:=by omega
      have lj2:IntKind.i64.wrap ((j:Int)+1 - 1)=(j:Int):=by rw [IntKind.wrap_i64];omega
      have lj3:IntKind.i64.wrap (j:Int)=(j:Int):=by rw [IntKind.wrap_i64];omega
      have l02:(0:Int)<(j:Int)+1:=by omega
      have hxe:(x:Int)<(en:Int):=by omega
      have hjo:(j:Int)<((on+1:Nat):Int):=by omega
      clear hstep hins hbi hri hk1 hk2 hcb hks1 hks2 hon hgl1 hgl2 hqi hxk hx
      go_wp2_with fail
      go_region_held3 (λu=>u.cell? ⟨g,k*8+7,none⟩=some (.slice ka1 k1 kc1)/\u.cell? ⟨q,j,none⟩=some (.int .i64 (x:Int))/\u.cell? ⟨g,x*8+7,none⟩=some (.slice ka2 k2 kc2))
       (first|exact⟨e7,hjc,f7⟩|go_keep)
       ((go_at_call 68;refine(A.out _ ?_).mono ?_;(exact(Gr.refl _).drew);rintro e w4 ⟨rfl,hb4⟩;replace hb4:=undrew hb4;have y1:=(hb4.cell (World.block_lt_of_cell? _ _ e7)).trans e7;have y2:=(hb4.cell (World.block_lt_of_cell? _ _ hjc)).trans hjc;have y3:=(hb4.cell (World.block_lt_of_cell? _ _ f7)).trans f7))
      have hri4:=row_below Hri.out hb4
      have hbi4:=Gr.trans Hbi.out hb4
      obtain⟨z0,zf⟩:=row_at hri4 (nats_get (midK_here (y:=y) (by have:=Hon.out;omega:j+1<=out.length)))
      cases cb with
      | true=>
       have hst:insAt rp.evs out k (j+1)=insAt rp.evs out k j:=Hst.out.trans (if_pos rfl)
       have hrow5:(w4.setCell ⟨q,j+1,none⟩ (.int .i64 (x:Int))).ownsRow w.heap.size 3 1 (.slice (some ⟨q,0,none⟩) (on+1) cp) (on+1) ((midK out j x).map natV):=by
        have h3:=row_put hri4 (j+1) (.int .i64 (x:Int))
        rw [nats_set,midK_put (by have:=Hon.out;omega),Hx.out,midK_down (by have:=Hon.out;omega),<-Hx.out] at h3
        exact h3
       have Hn:=Lib.hid (show j<=on/\insAt rp.evs out k j=insAt rp.evs out k on/\Below w.heap.size w (w4.setCell ⟨q,j+1,none⟩ (.int .i64 (x:Int))) from⟨by omega,hst.symm.trans Hins.out,hbi4.trans ⟨rfl,rfl,rfl,by simp [World.setCell],λb hb=>blk_set_other (by have:=Hq1.out;omega) _ _⟩⟩)
       have Hr5:=Lib.hid hrow5
       clear hri4 hbi4 hst hrow5 hc0 hf0 e7 f7 hjc y1 y3 hb4
       go_wp2
       go_roundw
       case rel=>exact⟨j,x,Hn.out.1,by go_num,Hn.out.2.1,Hn.out.2.2,Hr5.out⟩
       case measure=>simp [intOf]<;>omega
      | false=>
       have hst:insAt rp.evs out k (j+1)=j+1:=Hst.out.trans (if_neg (by simp))
       have Hz:=Lib.hid (Fin.out (j+1) y w4 hk' (Hins.out.symm.trans hst) hbi4 hri4)
       clear hri4 hbi4 hst hc0 hf0 e7 f7 hjc y1 y2 y3 hb4
       go_wp2
       go_roundw
       case rel=>exact⟨k+1,by omega,by go_num,Hz.out.1,Hz.out.2⟩
       case measure=>simp [intOf]<;>omega
  ·have l1:¬ (k:Int)<(en:Int):=by omega
   obtain rfl:k=en:=by omega
   have hol:=orderK_len rp.evs k
   obtain⟨ao,co,rfl,hsl,hfr⟩:=sl_of_row (g:=natG (orderK rp.evs k)) hrow (by unfold maxLen;omega) (λj hj=>by simp [natG,natV,List.getD_eq_getElem?_getD,hj])
   have e1:orderK rp.evs k=orderD rp.evs:=by rw [Hen.out];rfl
   rw [e1] at hsl ⊢
   have Hsl:=Lib.hid hsl;have Hb:=Lib.hid hb
   clear hrow hsl hb hol e1
   go_wp2
   go_ret
   exact⟨ao,⟨co,rfl⟩,Hsl.out,hfr,Hb.out⟩
end
section

/- Regions that draw their order, whose operations only read, and whose calls leave what was there: one walk in the order of the text serves every order. -/
open Go.RowKit
structure GrownOf (w:World) where
 u:World
 below:Below w.heap.size w u
instance grownOf_nonempty (w:World):Nonempty (GrownOf w):=⟨⟨w,Below.refl _ _⟩⟩
theorem wp_region_grown_lit {P:Program} {id:Nat} {Q:Exit->Act->World->Prop} {a:Act} {w:World} {l:List Oper} (hm:P.follows .mixedOrders=true) (hB:Region.lexB .any l.toArray=true)
  (h:wpQuiet P l.toArray (λw'=>∃ n:GrownOf w,w'=n.u) (λa'=>∀ w',(∃ n:GrownOf w,w'=n.u)->Q .normal a' w') l a):(Code.region id l.toArray true).wp P Q a w:=
 wp_region_quiet (C:=λw'=>∃ n:GrownOf w,w'=n.u) hm hB ⟨⟨_,(Below.refl w.heap.size w).drew⟩,rfl⟩ (by simpa using h)
theorem grown_cell {w:World} {p:Addr} {v:Value} (h:w.cell? p=some v):∀ n:GrownOf w,n.u.cell? p=some v:=λn=>(n.below.cell (World.block_lt_of_cell? _ _ h)).trans h
theorem quietG {P:Program} {f:FuncId} {args:Array Value} {w:World} {n:GrownOf w} {v:Value}
  (h:Calls P f args n.u λe w'=>e=.returned v/\Below n.u.heap.size n.u w'):Calls P f args n.u λe w''=>e=.returned v/\∃ m:GrownOf w,w''=m.u:=
 h.mono λ_ w' ⟨he,hb⟩=>⟨he,⟨w',Gr.trans n.below hb⟩,rfl⟩
theorem quietGS {P:Program} {f:FuncId} {args:Array Value} {w:World} {n:GrownOf w} {v:Value}
  (h:Calls P f args n.u λe w'=>e=.returned v/\n.u=w'):Calls P f args n.u λe w''=>e=.returned v/\∃ m:GrownOf w,w''=m.u:=
 h.mono λ_ w' ⟨he,hb⟩=>⟨he,n,hb.symm⟩
theorem allocs_below (w:World):∀ l:List Obj,Below w.heap.size w (l.foldl World.alloc w):=by
 have:∀(l:List Obj) (u:World),Below w.heap.size w u->Below w.heap.size w (l.foldl World.alloc u):=by
  intro l
  induction l with
  | nil=>intro u h;exact h
  | cons o l ih=>intro u h;exact ih _ (Gr.alloc h o)
 exact λl=>this l w (Gr.refl w)
theorem allocs_get:∀(l:List Obj) (w:World) (k:Nat) (o:Obj),l[k]?=some o->(l.foldl World.alloc w).heap[w.heap.size+k]?=some o
 | [],_,k,_,h=>by simp at h
 | x::l,w,0,o,h=>by
  rw [List.foldl_cons,(allocs_below (w.alloc x) l).block _ (by simp)]
  simp only [List.getElem?_cons_zero,Option.some.injEq] at h
  subst h
  exact heap_alloc_new _ _
 | x::l,w,k+1,o,h=>by
  rw [List.foldl_cons]
  have:=allocs_get l (w.alloc x) k o (by simpa using h)
  rw [World.size_alloc] at this
  rw [show w.heap.size+(k+1)=w.heap.size+1+k by omega]
  exact this
end
end Go.Proofs.Ytlepjmnhekeofaa
