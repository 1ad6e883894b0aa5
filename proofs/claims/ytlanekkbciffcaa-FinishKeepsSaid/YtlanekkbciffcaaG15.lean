/- Layer 21: the law FinishKeeps: the walk. -/
import Derived.Test.YtlanekkbciffcaaG14
set_option maxRecDepth 100000
set_option linter.unusedVariables false
set_option linter.unusedSimpArgs false
set_option linter.unnecessarySimpa false
namespace Go.Proofs.Ytlanekkbciffcaa
open Go.RowKit
def TailF (n o:Nat) (O A:List Nat):Prop:=A.length=O.length/\∀ i,i≠1->A.getD i 0≠O.getD i 0->i=2+o/\o<n/\dP (A.getD i 0)=false
def HeadF (n o p:Nat) (O B:List Nat):Prop:=B.length=O.length/\∀ i,i≠0->B.getD i 0≠O.getD i 0->(i=2+o/\o<n/\dP (B.getD i 0)=false)∨(i=p/\2+n<p/\(p - 2 - n) % 4=3)
theorem getD_set_if (l:List Nat) (p v i:Nat):(l.set p v).getD i 0=if i=p/\p<l.length then v else l.getD i 0:=by
 by_cases h:i=p
 ·subst h
  by_cases hl:i<l.length
  ·rw [if_pos ⟨rfl,hl⟩,getD_set_eq9 hl]
  ·rw [if_neg (λx=>hl x.2),List.set_eq_of_length_le (by omega)]
 ·rw [if_neg (λx=>h x.1)]
  rw [List.getD_eq_getElem?_getD,List.getElem?_set_ne (Ne.symm h),<-List.getD_eq_getElem?_getD]
theorem DescTo.f {n:Nat} {O W:List Nat} (h:DescTo n O W):∃ o,W.length=O.length/\∀ i,W.getD i 0≠O.getD i 0->i=2+o/\o<n/\dP (W.getD i 0)=false:=by
 rcases h with rfl|⟨o,v,h1,h2,rfl⟩
 ·exact⟨0,rfl,λi hi=>absurd rfl hi⟩
 ·refine⟨o,by simp,λi hi=>?_⟩
  rw [getD_set_if] at hi ⊢
  split
  ·rename_i h9;exact⟨h9.1,h1,h2⟩
  ·rename_i h9;rw [if_neg h9] at hi;exact absurd rfl hi
theorem TailTo.f {n j:Nat} {O A:List Nat} (h:TailTo n O A j):1<=j/\j<=5/\∃ o,TailF n o O A:=by
 obtain⟨h1,h2,wd,hd,hw⟩:=h
 obtain⟨o,hl,ho⟩:=hd.f
 refine⟨h1,h2,o,?_⟩
 rcases hw with rfl|⟨v,rfl⟩
 ·exact⟨hl,λi _ hi=>ho i hi⟩
 ·refine⟨by simp [hl],λi hi1 hi=>?_⟩
  rw [getD_set_if,if_neg (λx=>hi1 x.1)] at hi ⊢
  exact ho i hi
theorem HeadTo.f {n j:Nat} {O B:List Nat} (h:HeadTo n O B j):1<=j/\j<=8/\∃ o p,HeadF n o p O B:=by
 obtain⟨h1,h2,wd,w2,hd,hw,hz⟩:=h
 obtain⟨o,hl,ho⟩:=hd.f
 have h3:w2.length=O.length/\∀ i,i≠0->w2.getD i 0≠O.getD i 0->i=2+o/\o<n/\dP (w2.getD i 0)=false:=by
  rcases hw with rfl|⟨v,rfl⟩
  ·exact⟨hl,λi _ hi=>ho i hi⟩
  ·refine⟨by simp [hl],λi hi0 hi=>?_⟩
   rw [getD_set_if,if_neg (λx=>hi0 x.1)] at hi ⊢
   exact ho i hi
 refine⟨h1,h2,?_⟩
 rcases hz with rfl|⟨p,v,hp,rfl⟩
 ·exact⟨o,0,h3.1,λi hi0 hi=>.inl (h3.2 i hi0 hi)⟩
 ·refine⟨o,p,by simp [h3.1],λi hi0 hi=>?_⟩
  rw [getD_set_if] at hi ⊢
  split
  ·rename_i h9
   rcases hp with hp|hp
   ·exact absurd (h9.1.trans hp) hi0
   ·exact .inr ⟨h9.1,hp⟩
  ·rename_i h9
   rw [if_neg h9] at hi
   exact .inl (h3.2 i hi0 hi)
theorem slk {w:World} {a:Option Addr} {l:List Nat} (h:SlAt w a l.length 1 (u64G l)) {w':World} (hb:Below w.heap.size w w') {i:Nat} (hi:i<l.length):∃ b off,a=some ⟨b,off,none⟩/\w'.cell? ⟨b,off+i,none⟩=some (.int .u64 ((l.getD i 0:Nat):Int)):=by
 obtain⟨b,off,e,_,hc⟩:=(h.grown hb).2 i hi
 refine⟨b,off,e,?_⟩
 have:=hc 0 (by omega)
 rw [Nat.mul_one,Nat.add_zero] at this
 exact this
set_option maxHeartbeats 16000000 in
theorem finishKeeps_any (n k:Int) (words:List Nat) (a:Option Addr) (c:Nat) (w:World) (hs:SlAt w a words.length 1 (u64G words)) (hv:∀ x∈words,x<18446744073709551616) :
  Calls Try.prog 14 #[.int .i64 n,.int .i64 k,.slice a words.length c] w λe w'=>e=.returned (.bool true)/\Below w.heap.size w w':=by
 have RT:=Lib.hid (λu=>rright_any n k u)
 have SW:=Lib.hid (λu=>swung_any u)
 cases hr:rightB n k with
 | false=>
  rw [hr] at RT
  clear hs hv hr
  go_enter Try.func14,Try.ntmps14
  go_wp2_with (first|(go_at_call 29;refine(RT.out _).mono ?_;rintro e w' ⟨rfl,rfl⟩)|(go_at_call 30;refine(SW.out _).mono ?_;rintro e w' ⟨rfl,hb⟩))
  go_ret
  exact⟨rfl,hb⟩
 | true=>
  rw [hr] at RT
  obtain⟨r1,r2,r3,r4⟩:=rightB_pos hr
  obtain⟨r5,r6⟩:=nk_bound hr
  obtain⟨n,rfl⟩:∃ n':Nat,n=(n':Int):=⟨n.toNat,by omega⟩
  obtain⟨k,rfl⟩:∃ k':Nat,k=(k':Int):=⟨k.toNat,by omega⟩
  obtain⟨size,hsz⟩:∃ size:Nat,(size:Int)=2+(n:Int)+4*(1+(n:Int)*(k:Int)):=⟨(2+(n:Int)+4*(1+(n:Int)*(k:Int))).toNat,by omega⟩
  have FT:=Lib.hid (fit_any n k hr words a c w hs size hsz)
  have hlen:((fitTo size words size).length:Int)=2+(n:Int)+4*(1+(n:Int)*(k:Int)):=by rw [fitTo_len];exact hsz
  have hsm:=fitTo_small (size:=size) (words:=words) (i:=size) hv
  have hl3:size<=3000:=by omega
  obtain⟨O,hO⟩:∃ O,O=fitTo size words size:=⟨_,rfl⟩
  have hOl:O.length=size:=by rw [hO];exact fitTo_len _ _ _
  rw [<-hO] at FT hlen hsm
  have TL:=Lib.hid (λ(u:World) (b:Nat) (hu:SlAt u (some ⟨b,0,none⟩) O.length 1 (u64G O))=>fin_tail n k (TlInv n k O) (TailTo n O) (λw bT bW bm bw s m j h hI=>tl_step h (by omega) hI) (λs m j h=>by have:=h.2;omega) hr O ⟨Nat.le_of_eq rfl,.inl ⟨rfl,rfl,rfl⟩⟩ hlen (some ⟨b,0,none⟩) size u hu (λe=>by cases e) hsm)
  have HD:=Lib.hid (λ(u:World) (b:Nat) (hu:SlAt u (some ⟨b,0,none⟩) O.length 1 (u64G O))=>fin_head n k (HdInv n k O) (HeadTo n O) (λw bT bW bm bw s m j h hI=>hd_step h (by omega) hI) (λs m j h=>by have:=h.2;omega) hr O ⟨Nat.le_of_eq rfl,.inl ⟨rfl,rfl,rfl⟩⟩ hlen (some ⟨b,0,none⟩) size u hu (λe=>by cases e) hsm)
  rw [hOl] at TL HD
  have hn16:n<=16:=by omega
  have hn1:1<=n:=by omega
  have HOl:=Lib.hid hOl;have Hsm:=Lib.hid hsm
  clear hs hv hr r1 r2 r3 r4 r5 r6 hsz hlen hO hOl hsm
  go_enter Try.func14,Try.ntmps14
  go_wp2_with (first|(go_at_call 29;refine(RT.out _).mono ?_;rintro e w9 ⟨rfl,rfl⟩)|(go_at_call 31;refine FT.out.mono ?_;rintro e w1 ⟨b,rfl,hb1,hbel1⟩;have hsl1:SlAt w1 (some ⟨b,0,none⟩) size 1 (u64G O):=(by have h9:=sl_blk (l:=O) hb1 (by rw [HOl.out];omega);rw [HOl.out] at h9;exact h9))|(go_at_call 32;refine(TL.out _ _ hsl1).mono ?_;rintro e w2 ⟨va,vc,A,j1,rfl,hA,hTA,hAv,hb2⟩;have hsl2:=hsl1.grown hb2)|(go_at_call 33;refine(HD.out _ _ hsl2).mono ?_;rintro e w3 ⟨ua,uc,B,j2,rfl,hB,hTB,hBv,hb3⟩;have HAv:=Lib.hid hAv;have HBv:=Lib.hid hBv;clear hAv hBv;obtain⟨ja1,ja5,o1,hFA⟩:=hTA.f;obtain⟨jb1,jb8,o2,p2,hFB⟩:=hTB.f;have hAl:A.length=size:=hFA.1.trans HOl.out;have hBl:B.length=size:=hFB.1.trans HOl.out;have ga1:¬ (j1:Int)<1:=(by omega);have ga5:¬ (5:Int)<(j1:Int):=(by omega);have gb1:¬ (j2:Int)<1:=(by omega);have gb8:¬ (8:Int)<(j2:Int):=(by omega);have hsl3:=hsl2.grown hb3;have hA3:=hA.grown hb3;have HS:=Lib.hid hsl3;have HA:=Lib.hid hA3;have HB:=Lib.hid hB;have HFA:=Lib.hid hFA;have HFB:=Lib.hid hFB;have Hall:=Lib.hid (Gr.trans hbel1 (Gr.trans hb2 hb3));rw [hAl,hBl];have HAl:=Lib.hid hAl;have HBl:=Lib.hid hBl;clear hb1 hbel1 hsl1 hsl2 hA hTA hb2 hB hTB hb3 hFA hFB hAl hBl ja1 ja5 jb1 jb8 hsl3 hA3))
  clear ga1 ga5 gb1 gb8
  obtain⟨wa,hwa⟩:∃ wa,wa=w3:=⟨_,rfl⟩
  go_loopw [14,15,16,82] (λt h m i wr=>∃ i' tn hn mk:Nat,i'<=size/\i=.int .i64 i'/\t=.int .i64 tn/\h=.int .i64 hn/\m=.int .i64 mk/\tn<=(if 2+o1<i' then 1 else 0)/\hn<=(if 2+o2<i' then 1 else 0)/\mk<=(if p2<i' then 1 else 0)/\Below w3.heap.size w3 wr) (λ_ _ _ i _=>size - (intOf i).toNat)
  case atStart=>exact⟨0,0,0,0,Nat.zero_le _,rfl,rfl,rfl,rfl,Nat.zero_le _,Nat.zero_le _,Nat.zero_le _,Gr.refl _⟩
  case round=>
   obtain⟨i,tn,hn,mk,hi,rfl,rfl,rfl,rfl,gt,gh,gm,hb⟩:=hrel
   obtain⟨wo,rfl⟩:∃ wo,wo=wr:=⟨_,rfl⟩
   have Hb:=Lib.hid hb
   by_cases hlt:i<size
   ·obtain⟨bo,oo,eo,co⟩:=slk (l:=O) (by rw [HOl.out];exact HS.out) hb (by rw [HOl.out];exact hlt)
    cases eo
    obtain⟨ba,oa,rfl,ca⟩:=slk HA.out hb (by rw [HAl.out];exact hlt)
    obtain⟨bb,ob,rfl,cb⟩:=slk HB.out hb (by rw [HBl.out];exact hlt)
    have fA:=HFA.out.2 i
    have fB:=HFB.out.2 i
    have xU:U64 (O.getD i 0):=by
     rw [List.getD_eq_getElem?_getD,List.getElem?_eq_getElem (by rw [HOl.out];exact hlt)]
     have:=Hsm.out _ (List.getElem_mem (by rw [HOl.out];exact hlt))
     exact this
    have yU:U64 (A.getD i 0):=by
     rw [List.getD_eq_getElem?_getD,List.getElem?_eq_getElem (by rw [HAl.out];exact hlt)]
     exact HAv.out _ (List.getElem_mem (by rw [HAl.out];exact hlt))
    have zU:U64 (B.getD i 0):=by
     rw [List.getD_eq_getElem?_getD,List.getElem?_eq_getElem (by rw [HBl.out];exact hlt)]
     exact HBv.out _ (List.getElem_mem (by rw [HBl.out];exact hlt))
    obtain⟨x,hx⟩:∃ x,x=O.getD i 0:=⟨_,rfl⟩
    obtain⟨y,hy⟩:∃ y,y=A.getD i 0:=⟨_,rfl⟩
    obtain⟨z,hz⟩:∃ z,z=B.getD i 0:=⟨_,rfl⟩
    rw [<-hx] at co fA fB xU
    rw [<-hy] at ca fA yU
    rw [<-hz] at cb fB zU
    rw [Nat.zero_add] at co
    have PX:=Lib.hid (λu=>rpending19 x u xU)
    have PA:=Lib.hid (λu=>rpending19 y u yU)
    have PB:=Lib.hid (λu=>rpending19 z u zU)
    have l1:(i:Int)<(size:Int):=by omega
    have wn2:IntKind.i64.wrap (2+(n:Int))=2+(n:Int):=by rw [IntKind.wrap_i64];omega
    have wi2:IntKind.i64.wrap ((i:Int) - 2)=(i:Int) - 2:=by rw [IntKind.wrap_i64];omega
    have wi3:IntKind.i64.wrap ((i:Int) - 2 - (n:Int))=(i:Int) - 2 - (n:Int):=by rw [IntKind.wrap_i64];omega
    have htn:tn<=1:=by split at gt<;>omega
    have hhn:hn<=1:=by split at gh<;>omega
    have hmk:mk<=1:=by split at gm<;>omega
    have wt:IntKind.i64.wrap ((tn:Int)+1)=(tn:Int)+1:=by rw [IntKind.wrap_i64];omega
    have wh:IntKind.i64.wrap ((hn:Int)+1)=(hn:Int)+1:=by rw [IntKind.wrap_i64];omega
    have wm:IntKind.i64.wrap ((mk:Int)+1)=(mk:Int)+1:=by rw [IntKind.wrap_i64];omega
    have gt0:tn<=if 2+o1<i+1 then 1 else 0:=by split at gt<;>split<;>omega
    have gh0:hn<=if 2+o2<i+1 then 1 else 0:=by split at gh<;>split<;>omega
    have gm0:mk<=if p2<i+1 then 1 else 0:=by split at gm<;>split<;>omega
    have gt1:i=2+o1->tn+1<=if 2+o1<i+1 then 1 else 0:=λh=>by rw [if_pos (by omega)];rw [if_neg (by omega)] at gt;omega
    have gh1:i=2+o2->hn+1<=if 2+o2<i+1 then 1 else 0:=λh=>by rw [if_pos (by omega)];rw [if_neg (by omega)] at gh;omega
    have gm1:i=p2->mk+1<=if p2<i+1 then 1 else 0:=λh=>by rw [if_pos (by omega)];rw [if_neg (by omega)] at gm;omega
    have HI:=Lib.hid hi
    clear hx hy hz hb gt gh gm xU yU zU hi
    by_cases hd:2<=i/\i<2+n
    ·obtain⟨hd1,hd2⟩:=hd
     have d1:(2:Int)<=(i:Int):=by omega
     have d2:(i:Int)<2+(n:Int):=by omega
     have e1:((i:Int) != 1)=true:=by simp;omega
     have e0:((i:Int) != 0)=true:=by simp;omega
     have fA':=fA (by omega)
     have fB':z≠x->i=2+o2/\o2<n/\dP z=false:=λh=>(fB (by omega) h).elim id (λh9=>by omega)
     cases hpx:dP x with
     | true=>
      rw [hpx] at PX
      by_cases ha:y=x
      ·have na:((y:Int) !=(x:Int))=false:=by simp;omega
       by_cases hz:z=x
       ·have nb:((z:Int) !=(x:Int))=false:=by simp;omega
        clear fA' fB' ha hz
        have GT:=Lib.hid (gt0);have GH:=Lib.hid (gh0);have GM:=Lib.hid (gm0)
        clear gt0 gt1 gh0 gh1 gm0 gm1 fA fB;(try clear q1);(try clear s1);(try clear i0);(try clear i1)
        go_upto_region 15 with(go_at_call 34;first|(refine(PX.out _).mono ?_;rintro e wz ⟨rfl,rfl⟩)|(refine(PA.out _).mono ?_;rintro e wz ⟨rfl,rfl⟩)|(refine(PB.out _).mono ?_;rintro e wz ⟨rfl,rfl⟩))
        go_quiet (fail)
        obtain⟨wd,hwd⟩:∃ wd,wd=wo.drewN nq:=⟨_,rfl⟩
        rw [<-hwd]
        have co':wd.cell? ⟨b,i,none⟩=some (.int .u64 (x:Int)):=by rw [hwd];exact co
        have cb':wd.cell? ⟨bb,ob+i,none⟩=some (.int .u64 (z:Int)):=by rw [hwd];exact cb
        have hbd:Below w3.heap.size w3 wd:=by rw [hwd];exact below_drewN Hb.out nq
        have Hbd:=Lib.hid hbd
        clear co ca cb hwd hbd
        go_upto_region 19 with fail
        go_quiet (fail)
        obtain⟨we,hwe⟩:∃ we,we=wd.drewN nq:=⟨_,rfl⟩
        rw [<-hwe]
        have hbe:Below w3.heap.size w3 we:=by rw [hwe];exact below_drewN Hbd.out nq
        have Hbe:=Lib.hid hbe
        clear co' cb' hwe hbe
        go_wp2
        go_roundw
        case rel=>exact⟨i+1,tn,hn,mk,by omega,by go_num,by go_num,by go_num,by go_num,GT.out,GH.out,GM.out,Hbe.out⟩
        case measure=>simp [intOf]<;>omega
       ·have nb:((z:Int) !=(x:Int))=true:=by simp;omega
        obtain⟨q1,q2,q3⟩:=fB' hz
        clear fA' fB' ha hz q2
        have GT:=Lib.hid (gt0);have GH:=Lib.hid (gh1 q1);have GM:=Lib.hid (gm0)
        clear gt0 gt1 gh0 gh1 gm0 gm1 fA fB;(try clear q1);(try clear s1);(try clear i0);(try clear i1)
        go_upto_region 15 with(go_at_call 34;first|(refine(PX.out _).mono ?_;rintro e wz ⟨rfl,rfl⟩)|(refine(PA.out _).mono ?_;rintro e wz ⟨rfl,rfl⟩)|(refine(PB.out _).mono ?_;rintro e wz ⟨rfl,rfl⟩))
        go_quiet (fail)
        obtain⟨wd,hwd⟩:∃ wd,wd=wo.drewN nq:=⟨_,rfl⟩
        rw [<-hwd]
        have co':wd.cell? ⟨b,i,none⟩=some (.int .u64 (x:Int)):=by rw [hwd];exact co
        have cb':wd.cell? ⟨bb,ob+i,none⟩=some (.int .u64 (z:Int)):=by rw [hwd];exact cb
        have hbd:Below w3.heap.size w3 wd:=by rw [hwd];exact below_drewN Hb.out nq
        have Hbd:=Lib.hid hbd
        clear co ca cb hwd hbd
        go_upto_region 19 with fail
        go_quiet (fail)
        obtain⟨we,hwe⟩:∃ we,we=wd.drewN nq:=⟨_,rfl⟩
        rw [<-hwe]
        have hbe:Below w3.heap.size w3 we:=by rw [hwe];exact below_drewN Hbd.out nq
        have Hbe:=Lib.hid hbe
        clear co' cb' hwe hbe
        go_wp2
        go_roundw
        case rel=>exact⟨i+1,tn,hn+1,mk,by omega,by go_num,by go_num,by go_num,by go_num,GT.out,GH.out,GM.out,Hbe.out⟩
        case measure=>simp [intOf]<;>omega
      ·have na:((y:Int) !=(x:Int))=true:=by simp;omega
       obtain⟨s1,s2,s3⟩:=fA' ha
       by_cases hz:z=x
       ·have nb:((z:Int) !=(x:Int))=false:=by simp;omega
        clear fA' fB' ha hz s2
        have GT:=Lib.hid (gt1 s1);have GH:=Lib.hid (gh0);have GM:=Lib.hid (gm0)
        clear gt0 gt1 gh0 gh1 gm0 gm1 fA fB;(try clear q1);(try clear s1);(try clear i0);(try clear i1)
        go_upto_region 15 with(go_at_call 34;first|(refine(PX.out _).mono ?_;rintro e wz ⟨rfl,rfl⟩)|(refine(PA.out _).mono ?_;rintro e wz ⟨rfl,rfl⟩)|(refine(PB.out _).mono ?_;rintro e wz ⟨rfl,rfl⟩))
        go_quiet (fail)
        obtain⟨wd,hwd⟩:∃ wd,wd=wo.drewN nq:=⟨_,rfl⟩
        rw [<-hwd]
        have co':wd.cell? ⟨b,i,none⟩=some (.int .u64 (x:Int)):=by rw [hwd];exact co
        have cb':wd.cell? ⟨bb,ob+i,none⟩=some (.int .u64 (z:Int)):=by rw [hwd];exact cb
        have hbd:Below w3.heap.size w3 wd:=by rw [hwd];exact below_drewN Hb.out nq
        have Hbd:=Lib.hid hbd
        clear co ca cb hwd hbd
        go_upto_region 19 with fail
        go_quiet (fail)
        obtain⟨we,hwe⟩:∃ we,we=wd.drewN nq:=⟨_,rfl⟩
        rw [<-hwe]
        have hbe:Below w3.heap.size w3 we:=by rw [hwe];exact below_drewN Hbd.out nq
        have Hbe:=Lib.hid hbe
        clear co' cb' hwe hbe
        go_wp2
        go_roundw
        case rel=>exact⟨i+1,tn+1,hn,mk,by omega,by go_num,by go_num,by go_num,by go_num,GT.out,GH.out,GM.out,Hbe.out⟩
        case measure=>simp [intOf]<;>omega
       ·have nb:((z:Int) !=(x:Int))=true:=by simp;omega
        obtain⟨q1,q2,q3⟩:=fB' hz
        clear fA' fB' ha hz q2 s2
        have GT:=Lib.hid (gt1 s1);have GH:=Lib.hid (gh1 q1);have GM:=Lib.hid (gm0)
        clear gt0 gt1 gh0 gh1 gm0 gm1 fA fB;(try clear q1);(try clear s1);(try clear i0);(try clear i1)
        go_upto_region 15 with(go_at_call 34;first|(refine(PX.out _).mono ?_;rintro e wz ⟨rfl,rfl⟩)|(refine(PA.out _).mono ?_;rintro e wz ⟨rfl,rfl⟩)|(refine(PB.out _).mono ?_;rintro e wz ⟨rfl,rfl⟩))
        go_quiet (fail)
        obtain⟨wd,hwd⟩:∃ wd,wd=wo.drewN nq:=⟨_,rfl⟩
        rw [<-hwd]
        have co':wd.cell? ⟨b,i,none⟩=some (.int .u64 (x:Int)):=by rw [hwd];exact co
        have cb':wd.cell? ⟨bb,ob+i,none⟩=some (.int .u64 (z:Int)):=by rw [hwd];exact cb
        have hbd:Below w3.heap.size w3 wd:=by rw [hwd];exact below_drewN Hb.out nq
        have Hbd:=Lib.hid hbd
        clear co ca cb hwd hbd
        go_upto_region 19 with fail
        go_quiet (fail)
        obtain⟨we,hwe⟩:∃ we,we=wd.drewN nq:=⟨_,rfl⟩
        rw [<-hwe]
        have hbe:Below w3.heap.size w3 we:=by rw [hwe];exact below_drewN Hbd.out nq
        have Hbe:=Lib.hid hbe
        clear co' cb' hwe hbe
        go_wp2
        go_roundw
        case rel=>exact⟨i+1,tn+1,hn+1,mk,by omega,by go_num,by go_num,by go_num,by go_num,GT.out,GH.out,GM.out,Hbe.out⟩
        case measure=>simp [intOf]<;>omega
     | false=>
      rw [hpx] at PX
      by_cases ha:y=x
      ·have na:((y:Int) !=(x:Int))=false:=by simp;omega
       have dpy:dP y=false:=by rw [ha];exact hpx
       rw [dpy] at PA
       by_cases hz:z=x
       ·have nb:((z:Int) !=(x:Int))=false:=by simp;omega
        have dpz:dP z=false:=by rw [hz];exact hpx
        rw [dpz] at PB
        clear fA' fB' ha hz
        have GT:=Lib.hid (gt0);have GH:=Lib.hid (gh0);have GM:=Lib.hid (gm0)
        clear gt0 gt1 gh0 gh1 gm0 gm1 fA fB;(try clear q1);(try clear s1);(try clear i0);(try clear i1)
        go_upto_region 15 with(go_at_call 34;first|(refine(PX.out _).mono ?_;rintro e wz ⟨rfl,rfl⟩)|(refine(PA.out _).mono ?_;rintro e wz ⟨rfl,rfl⟩)|(refine(PB.out _).mono ?_;rintro e wz ⟨rfl,rfl⟩))
        go_quiet (fail)
        obtain⟨wd,hwd⟩:∃ wd,wd=wo.drewN nq:=⟨_,rfl⟩
        rw [<-hwd]
        have co':wd.cell? ⟨b,i,none⟩=some (.int .u64 (x:Int)):=by rw [hwd];exact co
        have cb':wd.cell? ⟨bb,ob+i,none⟩=some (.int .u64 (z:Int)):=by rw [hwd];exact cb
        have hbd:Below w3.heap.size w3 wd:=by rw [hwd];exact below_drewN Hb.out nq
        have Hbd:=Lib.hid hbd
        clear co ca cb hwd hbd
        go_upto_region 19 with fail
        go_quiet (fail)
        obtain⟨we,hwe⟩:∃ we,we=wd.drewN nq:=⟨_,rfl⟩
        rw [<-hwe]
        have hbe:Below w3.heap.size w3 we:=by rw [hwe];exact below_drewN Hbd.out nq
        have Hbe:=Lib.hid hbe
        clear co' cb' hwe hbe
        go_wp2
        go_roundw
        case rel=>exact⟨i+1,tn,hn,mk,by omega,by go_num,by go_num,by go_num,by go_num,GT.out,GH.out,GM.out,Hbe.out⟩
        case measure=>simp [intOf]<;>omega
       ·have nb:((z:Int) !=(x:Int))=true:=by simp;omega
        obtain⟨q1,q2,q3⟩:=fB' hz
        rw [q3] at PB
        clear fA' fB' ha hz q2
        have GT:=Lib.hid (gt0);have GH:=Lib.hid (gh1 q1);have GM:=Lib.hid (gm0)
        clear gt0 gt1 gh0 gh1 gm0 gm1 fA fB;(try clear q1);(try clear s1);(try clear i0);(try clear i1)
        go_upto_region 15 with(go_at_call 34;first|(refine(PX.out _).mono ?_;rintro e wz ⟨rfl,rfl⟩)|(refine(PA.out _).mono ?_;rintro e wz ⟨rfl,rfl⟩)|(refine(PB.out _).mono ?_;rintro e wz ⟨rfl,rfl⟩))
        go_quiet (fail)
        obtain⟨wd,hwd⟩:∃ wd,wd=wo.drewN nq:=⟨_,rfl⟩
        rw [<-hwd]
        have co':wd.cell? ⟨b,i,none⟩=some (.int .u64 (x:Int)):=by rw [hwd];exact co
        have cb':wd.cell? ⟨bb,ob+i,none⟩=some (.int .u64 (z:Int)):=by rw [hwd];exact cb
        have hbd:Below w3.heap.size w3 wd:=by rw [hwd];exact below_drewN Hb.out nq
        have Hbd:=Lib.hid hbd
        clear co ca cb hwd hbd
        go_upto_region 19 with fail
        go_quiet (fail)
        obtain⟨we,hwe⟩:∃ we,we=wd.drewN nq:=⟨_,rfl⟩
        rw [<-hwe]
        have hbe:Below w3.heap.size w3 we:=by rw [hwe];exact below_drewN Hbd.out nq
        have Hbe:=Lib.hid hbe
        clear co' cb' hwe hbe
        go_wp2
        go_roundw
        case rel=>exact⟨i+1,tn,hn+1,mk,by omega,by go_num,by go_num,by go_num,by go_num,GT.out,GH.out,GM.out,Hbe.out⟩
        case measure=>simp [intOf]<;>omega
      ·have na:((y:Int) !=(x:Int))=true:=by simp;omega
       obtain⟨s1,s2,s3⟩:=fA' ha
       rw [s3] at PA
       by_cases hz:z=x
       ·have nb:((z:Int) !=(x:Int))=false:=by simp;omega
        have dpz:dP z=false:=by rw [hz];exact hpx
        rw [dpz] at PB
        clear fA' fB' ha hz s2
        have GT:=Lib.hid (gt1 s1);have GH:=Lib.hid (gh0);have GM:=Lib.hid (gm0)
        clear gt0 gt1 gh0 gh1 gm0 gm1 fA fB;(try clear q1);(try clear s1);(try clear i0);(try clear i1)
        go_upto_region 15 with(go_at_call 34;first|(refine(PX.out _).mono ?_;rintro e wz ⟨rfl,rfl⟩)|(refine(PA.out _).mono ?_;rintro e wz ⟨rfl,rfl⟩)|(refine(PB.out _).mono ?_;rintro e wz ⟨rfl,rfl⟩))
        go_quiet (fail)
        obtain⟨wd,hwd⟩:∃ wd,wd=wo.drewN nq:=⟨_,rfl⟩
        rw [<-hwd]
        have co':wd.cell? ⟨b,i,none⟩=some (.int .u64 (x:Int)):=by rw [hwd];exact co
        have cb':wd.cell? ⟨bb,ob+i,none⟩=some (.int .u64 (z:Int)):=by rw [hwd];exact cb
        have hbd:Below w3.heap.size w3 wd:=by rw [hwd];exact below_drewN Hb.out nq
        have Hbd:=Lib.hid hbd
        clear co ca cb hwd hbd
        go_upto_region 19 with fail
        go_quiet (fail)
        obtain⟨we,hwe⟩:∃ we,we=wd.drewN nq:=⟨_,rfl⟩
        rw [<-hwe]
        have hbe:Below w3.heap.size w3 we:=by rw [hwe];exact below_drewN Hbd.out nq
        have Hbe:=Lib.hid hbe
        clear co' cb' hwe hbe
        go_wp2
        go_roundw
        case rel=>exact⟨i+1,tn+1,hn,mk,by omega,by go_num,by go_num,by go_num,by go_num,GT.out,GH.out,GM.out,Hbe.out⟩
        case measure=>simp [intOf]<;>omega
       ·have nb:((z:Int) !=(x:Int))=true:=by simp;omega
        obtain⟨q1,q2,q3⟩:=fB' hz
        rw [q3] at PB
        clear fA' fB' ha hz q2 s2
        have GT:=Lib.hid (gt1 s1);have GH:=Lib.hid (gh1 q1);have GM:=Lib.hid (gm0)
        clear gt0 gt1 gh0 gh1 gm0 gm1 fA fB;(try clear q1);(try clear s1);(try clear i0);(try clear i1)
        go_upto_region 15 with(go_at_call 34;first|(refine(PX.out _).mono ?_;rintro e wz ⟨rfl,rfl⟩)|(refine(PA.out _).mono ?_;rintro e wz ⟨rfl,rfl⟩)|(refine(PB.out _).mono ?_;rintro e wz ⟨rfl,rfl⟩))
        go_quiet (fail)
        obtain⟨wd,hwd⟩:∃ wd,wd=wo.drewN nq:=⟨_,rfl⟩
        rw [<-hwd]
        have co':wd.cell? ⟨b,i,none⟩=some (.int .u64 (x:Int)):=by rw [hwd];exact co
        have cb':wd.cell? ⟨bb,ob+i,none⟩=some (.int .u64 (z:Int)):=by rw [hwd];exact cb
        have hbd:Below w3.heap.size w3 wd:=by rw [hwd];exact below_drewN Hb.out nq
        have Hbd:=Lib.hid hbd
        clear co ca cb hwd hbd
        go_upto_region 19 with fail
        go_quiet (fail)
        obtain⟨we,hwe⟩:∃ we,we=wd.drewN nq:=⟨_,rfl⟩
        rw [<-hwe]
        have hbe:Below w3.heap.size w3 we:=by rw [hwe];exact below_drewN Hbd.out nq
        have Hbe:=Lib.hid hbe
        clear co' cb' hwe hbe
        go_wp2
        go_roundw
        case rel=>exact⟨i+1,tn+1,hn+1,mk,by omega,by go_num,by go_num,by go_num,by go_num,GT.out,GH.out,GM.out,Hbe.out⟩
        case measure=>simp [intOf]<;>omega
    ·have d1:(decide ((2:Int)<=(i:Int)) && decide ((i:Int)<2+(n:Int)))=false:=by
      rw [Bool.and_eq_false_iff];simp;omega
     by_cases i0:i=0
     ·have d2:¬ (2:Int)<=(i:Int):=by omega
      have e1:((i:Int) != 1)=true:=by simp;omega
      have e0:((i:Int) != 0)=false:=by simp;omega
      have ha:y=x:=Classical.byContradiction λh=>by have:=fA (by omega) h;omega
      have na:((y:Int) !=(x:Int))=false:=by simp;omega
      by_cases hz:z=x
      ·have nb:((z:Int) !=(x:Int))=false:=by simp;omega
       have GT:=Lib.hid (gt0);have GH:=Lib.hid (gh0);have GM:=Lib.hid (gm0)
       clear gt0 gt1 gh0 gh1 gm0 gm1 fA fB;(try clear q1);(try clear s1);(try clear i0);(try clear i1)
       go_upto_region 15 with(go_at_call 34;first|(refine(PX.out _).mono ?_;rintro e wz ⟨rfl,rfl⟩)|(refine(PA.out _).mono ?_;rintro e wz ⟨rfl,rfl⟩)|(refine(PB.out _).mono ?_;rintro e wz ⟨rfl,rfl⟩))
       go_quiet (fail)
       obtain⟨wd,hwd⟩:∃ wd,wd=wo.drewN nq:=⟨_,rfl⟩
       rw [<-hwd]
       have co':wd.cell? ⟨b,i,none⟩=some (.int .u64 (x:Int)):=by rw [hwd];exact co
       have cb':wd.cell? ⟨bb,ob+i,none⟩=some (.int .u64 (z:Int)):=by rw [hwd];exact cb
       have hbd:Below w3.heap.size w3 wd:=by rw [hwd];exact below_drewN Hb.out nq
       have Hbd:=Lib.hid hbd
       clear co ca cb hwd hbd
       go_upto_region 19 with fail
       go_quiet (fail)
       obtain⟨we,hwe⟩:∃ we,we=wd.drewN nq:=⟨_,rfl⟩
       rw [<-hwe]
       have hbe:Below w3.heap.size w3 we:=by rw [hwe];exact below_drewN Hbd.out nq
       have Hbe:=Lib.hid hbe
       clear co' cb' hwe hbe
       go_wp2
       go_roundw
       case rel=>exact⟨i+1,tn,hn,mk,by omega,by go_num,by go_num,by go_num,by go_num,GT.out,GH.out,GM.out,Hbe.out⟩
       case measure=>simp [intOf]<;>omega
      ·have nb:((z:Int) !=(x:Int))=true:=by simp;omega
       have GT:=Lib.hid (gt0);have GH:=Lib.hid (gh0);have GM:=Lib.hid (gm0)
       clear gt0 gt1 gh0 gh1 gm0 gm1 fA fB;(try clear q1);(try clear s1);(try clear i0);(try clear i1)
       go_upto_region 15 with(go_at_call 34;first|(refine(PX.out _).mono ?_;rintro e wz ⟨rfl,rfl⟩)|(refine(PA.out _).mono ?_;rintro e wz ⟨rfl,rfl⟩)|(refine(PB.out _).mono ?_;rintro e wz ⟨rfl,rfl⟩))
       go_quiet (fail)
       obtain⟨wd,hwd⟩:∃ wd,wd=wo.drewN nq:=⟨_,rfl⟩
       rw [<-hwd]
       have co':wd.cell? ⟨b,i,none⟩=some (.int .u64 (x:Int)):=by rw [hwd];exact co
       have cb':wd.cell? ⟨bb,ob+i,none⟩=some (.int .u64 (z:Int)):=by rw [hwd];exact cb
       have hbd:Below w3.heap.size w3 wd:=by rw [hwd];exact below_drewN Hb.out nq
       have Hbd:=Lib.hid hbd
       clear co ca cb hwd hbd
       go_upto_region 19 with fail
       go_quiet (fail)
       obtain⟨we,hwe⟩:∃ we,we=wd.drewN nq:=⟨_,rfl⟩
       rw [<-hwe]
       have hbe:Below w3.heap.size w3 we:=by rw [hwe];exact below_drewN Hbd.out nq
       have Hbe:=Lib.hid hbe
       clear co' cb' hwe hbe
       go_wp2
       go_roundw
       case rel=>exact⟨i+1,tn,hn,mk,by omega,by go_num,by go_num,by go_num,by go_num,GT.out,GH.out,GM.out,Hbe.out⟩
       case measure=>simp [intOf]<;>omega
     by_cases i1:i=1
     ·have d2:¬ (2:Int)<=(i:Int):=by omega
      have e1:((i:Int) != 1)=false:=by simp;omega
      have e0:((i:Int) != 0)=true:=by simp;omega
      have hz:z=x:=Classical.byContradiction λh=>by have:=fB (by omega) h;omega
      have nb:((z:Int) !=(x:Int))=false:=by simp;omega
      by_cases ha:y=x
      ·have na:((y:Int) !=(x:Int))=false:=by simp;omega
       have GT:=Lib.hid (gt0);have GH:=Lib.hid (gh0);have GM:=Lib.hid (gm0)
       clear gt0 gt1 gh0 gh1 gm0 gm1 fA fB;(try clear q1);(try clear s1);(try clear i0);(try clear i1)
       go_upto_region 15 with(go_at_call 34;first|(refine(PX.out _).mono ?_;rintro e wz ⟨rfl,rfl⟩)|(refine(PA.out _).mono ?_;rintro e wz ⟨rfl,rfl⟩)|(refine(PB.out _).mono ?_;rintro e wz ⟨rfl,rfl⟩))
       go_quiet (fail)
       obtain⟨wd,hwd⟩:∃ wd,wd=wo.drewN nq:=⟨_,rfl⟩
       rw [<-hwd]
       have co':wd.cell? ⟨b,i,none⟩=some (.int .u64 (x:Int)):=by rw [hwd];exact co
       have cb':wd.cell? ⟨bb,ob+i,none⟩=some (.int .u64 (z:Int)):=by rw [hwd];exact cb
       have hbd:Below w3.heap.size w3 wd:=by rw [hwd];exact below_drewN Hb.out nq
       have Hbd:=Lib.hid hbd
       clear co ca cb hwd hbd
       go_upto_region 19 with fail
       go_quiet (fail)
       obtain⟨we,hwe⟩:∃ we,we=wd.drewN nq:=⟨_,rfl⟩
       rw [<-hwe]
       have hbe:Below w3.heap.size w3 we:=by rw [hwe];exact below_drewN Hbd.out nq
       have Hbe:=Lib.hid hbe
       clear co' cb' hwe hbe
       go_wp2
       go_roundw
       case rel=>exact⟨i+1,tn,hn,mk,by omega,by go_num,by go_num,by go_num,by go_num,GT.out,GH.out,GM.out,Hbe.out⟩
       case measure=>simp [intOf]<;>omega
      ·have na:((y:Int) !=(x:Int))=true:=by simp;omega
       have GT:=Lib.hid (gt0);have GH:=Lib.hid (gh0);have GM:=Lib.hid (gm0)
       clear gt0 gt1 gh0 gh1 gm0 gm1 fA fB;(try clear q1);(try clear s1);(try clear i0);(try clear i1)
       go_upto_region 15 with(go_at_call 34;first|(refine(PX.out _).mono ?_;rintro e wz ⟨rfl,rfl⟩)|(refine(PA.out _).mono ?_;rintro e wz ⟨rfl,rfl⟩)|(refine(PB.out _).mono ?_;rintro e wz ⟨rfl,rfl⟩))
       go_quiet (fail)
       obtain⟨wd,hwd⟩:∃ wd,wd=wo.drewN nq:=⟨_,rfl⟩
       rw [<-hwd]
       have co':wd.cell? ⟨b,i,none⟩=some (.int .u64 (x:Int)):=by rw [hwd];exact co
       have cb':wd.cell? ⟨bb,ob+i,none⟩=some (.int .u64 (z:Int)):=by rw [hwd];exact cb
       have hbd:Below w3.heap.size w3 wd:=by rw [hwd];exact below_drewN Hb.out nq
       have Hbd:=Lib.hid hbd
       clear co ca cb hwd hbd
       go_upto_region 19 with fail
       go_quiet (fail)
       obtain⟨we,hwe⟩:∃ we,we=wd.drewN nq:=⟨_,rfl⟩
       rw [<-hwe]
       have hbe:Below w3.heap.size w3 we:=by rw [hwe];exact below_drewN Hbd.out nq
       have Hbe:=Lib.hid hbe
       clear co' cb' hwe hbe
       go_wp2
       go_roundw
       case rel=>exact⟨i+1,tn,hn,mk,by omega,by go_num,by go_num,by go_num,by go_num,GT.out,GH.out,GM.out,Hbe.out⟩
       case measure=>simp [intOf]<;>omega
     have d2:(2:Int)<=(i:Int):=by omega
     have d3:¬ (i:Int)<2+(n:Int):=by omega
     have e1:((i:Int) != 1)=true:=by simp;omega
     have e0:((i:Int) != 0)=true:=by simp;omega
     have ha:y=x:=Classical.byContradiction λh=>by have:=fA (by omega) h;omega
     have na:((y:Int) !=(x:Int))=false:=by simp;omega
     by_cases hz:z=x
     ·have nb:((z:Int) !=(x:Int))=false:=by simp;omega
      have GT:=Lib.hid (gt0);have GH:=Lib.hid (gh0);have GM:=Lib.hid (gm0)
      clear gt0 gt1 gh0 gh1 gm0 gm1 fA fB;(try clear q1);(try clear s1);(try clear i0);(try clear i1)
      go_upto_region 15 with(go_at_call 34;first|(refine(PX.out _).mono ?_;rintro e wz ⟨rfl,rfl⟩)|(refine(PA.out _).mono ?_;rintro e wz ⟨rfl,rfl⟩)|(refine(PB.out _).mono ?_;rintro e wz ⟨rfl,rfl⟩))
      go_quiet (fail)
      obtain⟨wd,hwd⟩:∃ wd,wd=wo.drewN nq:=⟨_,rfl⟩
      rw [<-hwd]
      have co':wd.cell? ⟨b,i,none⟩=some (.int .u64 (x:Int)):=by rw [hwd];exact co
      have cb':wd.cell? ⟨bb,ob+i,none⟩=some (.int .u64 (z:Int)):=by rw [hwd];exact cb
      have hbd:Below w3.heap.size w3 wd:=by rw [hwd];exact below_drewN Hb.out nq
      have Hbd:=Lib.hid hbd
      clear co ca cb hwd hbd
      go_upto_region 19 with fail
      go_quiet (fail)
      obtain⟨we,hwe⟩:∃ we,we=wd.drewN nq:=⟨_,rfl⟩
      rw [<-hwe]
      have hbe:Below w3.heap.size w3 we:=by rw [hwe];exact below_drewN Hbd.out nq
      have Hbe:=Lib.hid hbe
      clear co' cb' hwe hbe
      go_wp2
      go_roundw
      case rel=>exact⟨i+1,tn,hn,mk,by omega,by go_num,by go_num,by go_num,by go_num,GT.out,GH.out,GM.out,Hbe.out⟩
      case measure=>simp [intOf]<;>omega
     ·have nb:((z:Int) !=(x:Int))=true:=by simp;omega
      obtain⟨q1,q2,q3⟩:i=p2/\2+n<p2/\(p2 - 2 - n) % 4=3:=(fB (by omega) hz).elim (λh=>by omega) id
      have t1:2+(n:Int)<(i:Int):=by omega
      have t2:((i:Int) - 2 - (n:Int)) % 4=3:=by omega
      have t3:((i:Int) - 2 - (n:Int)).tmod 4=3:=by rw [Int.tmod_eq_emod_of_nonneg (by omega)];exact t2
      clear q2 q3
      have GT:=Lib.hid (gt0);have GH:=Lib.hid (gh0);have GM:=Lib.hid (gm1 q1)
      clear gt0 gt1 gh0 gh1 gm0 gm1 fA fB;(try clear q1);(try clear s1);(try clear i0);(try clear i1)
      go_upto_region 15 with(go_at_call 34;first|(refine(PX.out _).mono ?_;rintro e wz ⟨rfl,rfl⟩)|(refine(PA.out _).mono ?_;rintro e wz ⟨rfl,rfl⟩)|(refine(PB.out _).mono ?_;rintro e wz ⟨rfl,rfl⟩))
      go_quiet (fail)
      obtain⟨wd,hwd⟩:∃ wd,wd=wo.drewN nq:=⟨_,rfl⟩
      rw [<-hwd]
      have co':wd.cell? ⟨b,i,none⟩=some (.int .u64 (x:Int)):=by rw [hwd];exact co
      have cb':wd.cell? ⟨bb,ob+i,none⟩=some (.int .u64 (z:Int)):=by rw [hwd];exact cb
      have hbd:Below w3.heap.size w3 wd:=by rw [hwd];exact below_drewN Hb.out nq
      have Hbd:=Lib.hid hbd
      clear co ca cb hwd hbd
      go_upto_region 19 with fail
      go_quiet (fail)
      obtain⟨we,hwe⟩:∃ we,we=wd.drewN nq:=⟨_,rfl⟩
      rw [<-hwe]
      have hbe:Below w3.heap.size w3 we:=by rw [hwe];exact below_drewN Hbd.out nq
      have Hbe:=Lib.hid hbe
      clear co' cb' hwe hbe
      go_wp2
      go_roundw
      case rel=>exact⟨i+1,tn,hn,mk+1,by omega,by go_num,by go_num,by go_num,by go_num,GT.out,GH.out,GM.out,Hbe.out⟩
      case measure=>simp [intOf]<;>omega
   ·obtain rfl:i=size:=by omega
    have l1:¬ (i:Int)<(i:Int):=by omega
    have htn:tn<=1:=by split at gt<;>omega
    have hhn:hn<=1:=by split at gh<;>omega
    have hmk:mk<=1:=by split at gm<;>omega
    have t1:(tn:Int)<=1:=by omega
    have t2:(hn:Int)<=1:=by omega
    have t3:(mk:Int)<=1:=by omega
    clear hb gt gh gm hi hlt
    go_wp2_with (go_at_call 30;refine(SW.out _).mono ?_;rintro e w4 ⟨rfl,hb4⟩)
    go_ret
    exact⟨rfl,Gr.trans Hall.out (Gr.trans Hb.out hb4)⟩
end Go.Proofs.Ytlanekkbciffcaa
