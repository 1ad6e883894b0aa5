/- Layer 6: the walk of roundelayplain.Ahead. -/
import Derived.Test.YtlepjmnhekeofaaW36
import Derived.Test.YtlepjmnhekeofaaW20
import Derived.Test.YtlepjmnhekeofaaW19
set_option maxRecDepth 100000
set_option linter.unusedVariables false
set_option linter.unusedSimpArgs false
set_option linter.unnecessarySimpa false
namespace Go.Proofs.Ytlepjmnhekeofaa
section
open Go.RowKit
theorem ahead26_any (r iv:Nat) (a0 a1 a3 a4 a5 a6 a7 b0 b2 b3 b4 b5 b6 b7:Value) (w:World) :
  Calls Try.prog 54 #[.agg #[a0,a1,.int .i64 (r:Int),a3,a4,a5,a6,a7],.agg #[b0,.int .i64 (iv:Int),b2,b3,b4,b5,b6,b7]] w λe w'=>e=.returned (.bool (decide (r≠0) && decide (r<iv)))/\Below w.heap.size w w':=by
 by_cases h0:r=0
 ·subst h0
  go_enter Try.func54,Try.ntmps54
  go_wp2
  go_ret
  exact⟨rfl,Gr.alloc (Gr.new _ _) _⟩
 ·have q0:((r:Int) != 0)=true:=by simpa using h0
  have q1:¬ (r:Int)=0:=by omega
  by_cases h1:r<iv
  ·have e1:(decide (r≠0) && decide (r<iv))=true:=by simp [h0,h1]
   rw [e1]
   have q2:(r:Int)<(iv:Int):=by omega
   go_enter Try.func54,Try.ntmps54
   go_wp2
   go_ret
   exact⟨rfl,Gr.alloc (Gr.new _ _) _⟩
  ·have e1:(decide (r≠0) && decide (r<iv))=false:=by simp [h1]
   rw [e1]
   have q2:¬ (r:Int)<(iv:Int):=by omega
   go_enter Try.func54,Try.ntmps54
   go_wp2
   go_ret
   exact⟨rfl,Gr.alloc (Gr.new _ _) _⟩
set_option maxHeartbeats 8000000 in
theorem aheads_true {X:Nat->Prop} {B:Nat} (w:World) (ea va:Option Addr) (en ec vn vc:Nat) (ers:List (Value×Value)) (rp:RepD) (hrep:RepAt X B w (.slice ea en ec) (.slice va vn vc) ers rp) (hen:en=rp.evs.length) (hlen:rp.evs.length<1000000)
  (hg:∀ i k,i<rp.evs.length->k<rp.evs.length->(evAt rp.evs i).resp≠0->(evAt rp.evs i).resp<(evAt rp.evs k).inv->kAt rp.evs k≠[]->kAt rp.evs i≠[]/\keyLt (kAt rp.evs i) (kAt rp.evs k)=true) (hr:∀ i,i<rp.evs.length->(evAt rp.evs i).resp≠0->kAt rp.evs i≠[]) :
  Calls Try.prog 35 #[.slice ea en ec] w λe w'=>e=.returned (.bool true)/\Below w.heap.size w w':=by
 have henl:en<=9223372036854775807:=by omega
 have Hrep:=Lib.hid hrep;have Hen:=Lib.hid hen;have Hg:=Lib.hid hg;have Hr:=Lib.hid hr
 clear hrep hen hg hr hlen
 go_enter Try.func35,Try.ntmps35
 go_wp2
 go_loopw [7] (λi wr=>∃ k:Nat,k<=en/\i=.int .i64 k/\Below w.heap.size w wr) (λi _=>en - (intOf i).toNat)
 case atStart=>exact⟨0,Nat.zero_le _,rfl,Gr.refl _⟩
 case round=>
  obtain⟨k,hk,rfl,hb⟩:=hrel
  obtain⟨wo,rfl⟩:∃ wo,wo=wr:=⟨_,rfl⟩
  by_cases hlt:k<en
  ·have l1:(k:Int)<(en:Int):=by omega
   have Hb:=Lib.hid hb
   clear hb
   go_wp2
   go_loopw [12] (λi wq=>∃ q:Nat,q<=en/\i=.int .i64 q/\Below w.heap.size w wq) (λi _=>en - (intOf i).toNat)
   case atStart=>exact⟨0,Nat.zero_le _,rfl,Hb.out⟩
   case round=>
    obtain⟨q,hq,rfl,hb⟩:=hrel
    obtain⟨wi,rfl⟩:∃ wi,wi=wr:=⟨_,rfl⟩
    by_cases hlq:q<en
    ·obtain⟨g,la,lc,ka,kc,rfl,hgl,e0,e1,e2,e3,e4,e5,e6,e7,hls,hks,hknil⟩:=Hrep.out.ev8 Hen.out hlt hb
     obtain⟨g2,la2,lc2,ka2,kc2,hgg,hgl2,f0,f1,f2,f3,f4,f5,f6,f7,hls2,hks2,hknil2⟩:=Hrep.out.ev8 Hen.out hlq hb
     cases hgg
     have G:=Hg.out k q (by rw [<-Hen.out];exact hlt) (by rw [<-Hen.out];exact hlq)
     have R:=Hr.out k (by rw [<-Hen.out];exact hlt)
     have A4:=Lib.hid (λ(u:World) (h:Below wi.heap.size wi u)=>ahead4_any (evAt rp.evs k).key (evAt rp.evs q).key ka ka2 kc kc2 u (hks.grown h) (hks2.grown h))
     unfold kAt at G R
     obtain⟨E,hE⟩:∃ E,E=evAt rp.evs k:=⟨_,rfl⟩
     obtain⟨F,hF⟩:∃ F,F=evAt rp.evs q:=⟨_,rfl⟩
     rw [<-hE,<-hF] at G A4
     rw [<-hE] at e0 e1 e2 e3 e4 e5 e6 e7 R
     rw [<-hF] at f0 f1 f2 f3 f4 f5 f6 f7
     obtain⟨cI,iv,rs,st,⟨er,vl,li⟩,ky⟩:=E
     obtain⟨cJ,jv,js,jt,⟨jr,jl,ji⟩,jy⟩:=F
     simp only at e0 e1 e2 e3 e4 e5 e6 e7 f0 f1 f2 f3 f4 f5 f6 f7 G R A4
     obtain⟨ln,hln⟩:∃ ln,ln=li.length:=⟨_,rfl⟩
     obtain⟨kn,hkn⟩:∃ kn,kn=ky.length:=⟨_,rfl⟩
     obtain⟨jln,hjln⟩:∃ ln,ln=ji.length:=⟨_,rfl⟩
     obtain⟨jkn,hjkn⟩:∃ kn,kn=jy.length:=⟨_,rfl⟩
     rw [<-hln] at e6
     rw [<-hkn] at e7 A4
     rw [<-hjln] at f6
     rw [<-hjkn] at f7 A4
     have m1:(q:Int)<(en:Int):=by omega
     have Hb:=Lib.hid hb
     obtain⟨c26,hc26⟩:∃ c26,c26=(decide (rs≠0) && decide (rs<jv)):=⟨_,rfl⟩
     have A26:=Lib.hid (λ(u:World)=>ahead26_any rs jv (.int .i64 (cI:Int)) (.int .i64 (iv:Int)) (.int .i64 (st:Int)) (.int .i64 er) (.int .u64 (vl:Int)) (.slice la ln lc) (.slice ka kn kc) (.int .i64 (cJ:Int)) (.int .i64 (js:Int)) (.int .i64 (jt:Int)) (.int .i64 jr) (.int .u64 (jl:Int)) (.slice la2 jln lc2) (.slice ka2 jkn kc2) u)
     rw [<-hc26] at A26
     have G2:c26=true->jy≠[]->ky≠[]/\keyLt ky jy=true:=λh hj=>by
      rw [hc26] at h
      simp only [ne_eq,Bool.and_eq_true,decide_eq_true_eq] at h
      exact G h.1 h.2 hj
     have R2:c26=true->ky≠[]:=λh=>by
      rw [hc26] at h
      simp only [ne_eq,Bool.and_eq_true,decide_eq_true_eq] at h
      exact R h.1
     clear hls hks hknil hls2 hks2 hknil2 G R hE hF hb hc26 hln hjln hgl hgl2
     have E0:=grown_cell e0;have E1:=grown_cell e1;have E2:=grown_cell e2;have E3:=grown_cell e3;have E4:=grown_cell e4;have E5:=grown_cell e5;have E6:=grown_cell e6;have E7:=grown_cell e7
     have F0:=grown_cell f0;have F1:=grown_cell f1;have F2:=grown_cell f2;have F3:=grown_cell f3;have F4:=grown_cell f4;have F5:=grown_cell f5;have F6:=grown_cell f6;have F7:=grown_cell f7
     clear e0 e1 e2 e3 e4 e5 e6 e7 f0 f1 f2 f3 f4 f5 f6 f7
     cases c26 with
     | false=>
      clear G2 R2 A4 hkn hjkn
      go_wp2_with fail
      ((with_reducible refine wp_region_grown_lit (by kernel_rfl) (by kernel_rfl) ?_);(repeat ((with_reducible refine wpQuiet_step (λK hK=>?_));go_simp;first|((with_reducible refine hK _ ?_);clear hK K)|((with_reducible apply Exists.intro);(with_reducible refine⟨λ_=>?_,hK _ ?_⟩);((go_at_call 54;first|exact quietG (A26.out _)|exact quietGS (A26.out _)));clear hK K)));(with_reducible refine wpQuiet_nil ?_);intro _ hw';obtain⟨nq,hw''⟩:=hw';subst hw'')
      clear E0 E1 E2 E3 E4 E5 E6 E7 F0 F1 F2 F3 F4 F5 F6 F7
      have Hq:=Lib.hid (Gr.trans Hb.out nq.below)
      go_wp2
      go_roundw
      case rel=>exact⟨q+1,by omega,by go_num,Hq.out⟩
      case measure=>simp [intOf]<;>omega
     | true=>
      have hky:=R2 rfl
      have l2:(0:Int)<(kn:Int):=by
       have:kn≠0:=by rw [hkn];intro h;exact hky (List.eq_nil_of_length_eq_zero h)
       omega
      have l2n:0<kn:=by omega
      by_cases hjy:jy=[]
      ·have l3:jkn=0:=by rw [hjkn,hjy];rfl
       subst l3
       clear G2 R2 A4 hkn hjkn hky hjy
       go_wp2_with fail
       ((with_reducible refine wp_region_grown_lit (by kernel_rfl) (by kernel_rfl) ?_);(repeat ((with_reducible refine wpQuiet_step (λK hK=>?_));go_simp;first|((with_reducible refine hK _ ?_);clear hK K)|((with_reducible apply Exists.intro);(with_reducible refine⟨λ_=>?_,hK _ ?_⟩);((go_at_call 54;first|exact quietG (A26.out _)|exact quietGS (A26.out _)));clear hK K)));(with_reducible refine wpQuiet_nil ?_);intro _ hw';obtain⟨nq,hw''⟩:=hw';subst hw'')
       clear E0 E1 E2 E3 E4 E5 E6 E7 F0 F1 F2 F3 F4 F5 F6 F7
       have Hq:=Lib.hid (Gr.trans Hb.out nq.below)
       go_wp2
       go_roundw
       case rel=>exact⟨q+1,by omega,by go_num,Hq.out⟩
       case measure=>simp [intOf]<;>omega
      ·have l3:(0:Int)<(jkn:Int):=by
        have:jkn≠0:=by rw [hjkn];intro h;exact hjy (List.eq_nil_of_length_eq_zero h)
        omega
       have l3n:0<jkn:=by omega
       have hG:=(G2 rfl hjy).2
       rw [hG] at A4
       have A4n:=Lib.hid (λ(n:GrownOf wi)=>A4.out n.u n.below)
       clear G2 R2 hkn hjkn hky hjy hG A4
       go_wp2_with fail
       ((with_reducible refine wp_region_grown_lit (by kernel_rfl) (by kernel_rfl) ?_);(repeat ((with_reducible refine wpQuiet_step (λK hK=>?_));go_simp;first|((with_reducible refine hK _ ?_);clear hK K)|((with_reducible apply Exists.intro);(with_reducible refine⟨λ_=>?_,hK _ ?_⟩);((first|(go_at_call 54;first|exact quietG (A26.out _)|exact quietGS (A26.out _))|(go_at_call 55;first|exact quietG (A4n.out _)|exact quietGS (A4n.out _))));clear hK K)));(with_reducible refine wpQuiet_nil ?_);intro _ hw';obtain⟨nq,hw''⟩:=hw';subst hw'')
       clear E0 E1 E2 E3 E4 E5 E6 E7 F0 F1 F2 F3 F4 F5 F6 F7
       have Hq:=Lib.hid (Gr.trans Hb.out nq.below)
       go_wp2
       go_roundw
       case rel=>exact⟨q+1,by omega,by go_num,Hq.out⟩
       case measure=>simp [intOf]<;>omega
    ·have l2:¬ (q:Int)<(en:Int):=by omega
     have Hb2:=Lib.hid hb
     clear hb
     go_wp2
     go_roundw
     case rel=>exact⟨k+1,by omega,by go_num,Hb2.out⟩
     case measure=>simp [intOf]<;>omega
  ·have l1:¬ (k:Int)<(en:Int):=by omega
   have Hb:=Lib.hid hb
   clear hb
   go_wp2
   go_ret
   exact⟨rfl,Hb.out⟩
end
section

/- Operations done one by one, in the order of their keys: what makes a report whole, in plain numbers. -/
open Go.RowKit
instance evLt_dec (evs:List EvD) (i j:Nat):Decidable (evLt evs i j):=inferInstanceAs (Decidable (_∨_))
theorem cnt_filter (P:EvD->Bool):∀ l:List EvD,cnt P l=(l.filter P).length
 | []=>rfl
 | e::l=>by
  rw [cnt_cons,cnt_filter P l,List.filter_cons]
  split
  ·rw [List.length_cons];omega
  ·omega
theorem evs_range (evs:List EvD):evs=(List.range evs.length).map (evAt evs):=by
 apply List.ext_getElem
 ·simp
 ·intro i h1 h2
  simp [evAt,List.getD_eq_getElem?_getD,h1]
theorem cnt_range (P:EvD->Bool) (evs:List EvD):cnt P evs=((List.range evs.length).filter λi=>P (evAt evs i)).length:=by
 rw [cnt_filter]
 have h:=evs_range evs
 have h2:(evs.filter P).length=(((List.range evs.length).map (evAt evs)).filter P).length:=by rw [<-h]
 rw [h2,List.filter_map,List.length_map];rfl
theorem order_count (evs:List EvD) (Q:Nat->Bool):∀ k,((orderK evs k).filter Q).length=((List.range k).filter λi=>Q i && decide (kAt evs i≠[])).length
 | 0=>rfl
 | k+1=>by
  rw [List.range_succ,List.filter_append,List.length_append,<-order_count evs Q k]
  have hK:orderK evs (k+1)=if kAt evs k=[] then orderK evs k else insK evs (orderK evs k) k:=rfl
  rw [hK]
  split
  ·rename_i h;simp [h]
  ·rename_i h
   have e:((orderK evs k).filter Q).length=(((orderK evs k).take (insAt evs (orderK evs k) k (orderK evs k).length)).filter Q).length+(((orderK evs k).drop (insAt evs (orderK evs k) k (orderK evs k).length)).filter Q).length:=by
    rw [<-List.length_append,<-List.filter_append,List.take_append_drop]
   unfold insK
   rw [List.filter_append,List.filter_cons,List.length_append,e]
   cases hq:Q k<;>simp [hq,h]<;>omega
theorem pre_count {evs:List EvD} {l m:List Nat} {i:Nat} (h:orderD evs=l++i::m) (Q:Nat->Bool):(l.filter Q).length=((List.range evs.length).filter λj=>Q j && decide (evLt evs j i) && decide (kAt evs j≠[])).length:=by
 have h0:=order_count evs (λj=>Q j && decide (evLt evs j i)) evs.length
 rw [<-h0]
 show _=((orderD evs).filter _).length
 have hs:(orderD evs).Pairwise (evLt evs):=(orderK_spec evs evs.length).1
 rw [h] at hs ⊢
 obtain⟨_,p2,p3⟩:=List.pairwise_append.1 hs
 obtain⟨p4,_⟩:=List.pairwise_cons.1 p2
 rw [List.filter_append,List.length_append]
 have e1:l.filter (λj=>Q j && decide (evLt evs j i))=l.filter Q:=List.filter_congr λj hj=>by
  rw [decide_eq_true (p3 j hj i (by simp)),Bool.and_true]
 have e2:(i::m).filter (λj=>Q j && decide (evLt evs j i))=[]:=by
  rw [List.filter_eq_nil_iff]
  intro j hj
  rcases List.mem_cons.1 hj with rfl|hj
  ·rw [decide_eq_false (evLt_irrefl evs j)];simp
  ·rw [decide_eq_false (evLt_asymm (p4 j hj))];simp
 rw [e1,e2,List.length_nil,Nat.add_zero]
theorem fold_of {ap:List Nat->CallD->List Nat×AnsD} {calls:List CallD} {evs:List EvD}:∀(L:List Nat) (st:List Nat),
  (∀ l i m,L=l++i::m->(evAt evs i).resp≠0->(evAt evs i).ans=if (calls.getD (evAt evs i).call d0).obj≠0 then ⟨12,0,[]⟩ else (ap (foldTo ap calls evs st l) (calls.getD (evAt evs i).call d0)).2)->Fold ap calls evs st L
 | [],_,_=>trivial
 | i::L,st,h=>by
  have h0:=h [] i L rfl
  unfold Fold
  split
  ·rename_i ho
   refine⟨λhr=>(h0 hr).trans (if_pos ho),fold_of L st λl j m hL hr=>?_⟩
   have:=h (i::l) j m (by rw [hL];rfl) hr
   rw [this,show foldTo ap calls evs st (i::l)=foldTo ap calls evs (if (calls.getD (evAt evs i).call d0).obj≠0 then st else (ap st (calls.getD (evAt evs i).call d0)).1) l from rfl,if_pos ho]
  ·rename_i ho
   refine⟨λhr=>(h0 hr).trans (if_neg ho),fold_of L _ λl j m hL hr=>?_⟩
   have:=h (i::l) j m (by rw [hL];rfl) hr
   rw [this,show foldTo ap calls evs st (i::l)=foldTo ap calls evs (if (calls.getD (evAt evs i).call d0).obj≠0 then st else (ap st (calls.getD (evAt evs i).call d0)).1) l from rfl,if_neg ho]
structure WholeGood (ap:List Nat->CallD->List Nat×AnsD) (s0:List Nat) (calls:List CallD) (n:Nat) (r:RepD):Prop where
 rows:RowsGood calls n r
 fold:Fold ap calls r.evs s0 (orderD r.evs)
theorem rows_ahead {calls:List CallD} {n:Nat} {r:RepD} (h:RowsGood calls n r) {i k:Nat} (hi:i<r.evs.length) (hk:k<r.evs.length) (hr:(evAt r.evs i).resp≠0) (hlt:(evAt r.evs i).resp<(evAt r.evs k).inv) (hne:kAt r.evs k≠[]):kAt r.evs i≠[]/\keyLt (kAt r.evs i) (kAt r.evs k)=true:=by
 obtain⟨_,_,_,w1,w2,w3⟩:=(h.ev i hi).resp hr
 have hk2:2*((evAt r.evs k).inv:Int)<=(kAt r.evs k).headD 0:=by
  by_cases hr2:(evAt r.evs k).resp=0
  ·rcases(h.ev k hk).open_ hr2 with h1|h1
   ·exact absurd h1 hne
   ·exact h1.2.1
  ·exact((h.ev k hk).resp hr2).2.2.2.2.1
 exact⟨w1,keyLt_head w1 hne (by unfold kAt at *;omega)⟩
end
end Go.Proofs.Ytlepjmnhekeofaa
