/- The reference's scan of a snapshot. -/
import Derived.Test.YtfkokppncipgnaaGreatW31
import Derived.Test.YtfkokppncipgnaaGreatW21
import Derived.Test.YtfkokppncipgnaaGreatW18
import Derived.Test.YtfkokppncipgnaaGreatW22
import Derived.Test.YtfkokppncipgnaaGreatW28
import Derived.Test.YtfkokppncipgnaaGreatW30
import Derived.Test.YtfkokppncipgnaaGreatW14
import Derived.Test.YtfkokppncipgnaaGreatW29
set_option maxRecDepth 100000
set_option linter.unusedVariables false
set_option linter.unusedSimpArgs false
set_option linter.unnecessarySimpa false
namespace Go.Proofs.YtfkokppncipgnaaGreat
open List renaming getElem_toArray → zq1, getElem_cons_zero → zq2, getElem_cons_succ → zq3, setIfInBounds_toArray → zq4, set_cons_zero → zq5, set_cons_succ → zq6
section
open Go.RowKit
variable {B:fD} {w w':World} {t:aJ} {r:RWD}
def zM (c:Int) (t:aJ) (r:RWD) (mm:Int):Prop:=(0<=c/\LM t c.toNat mm)∨(c<0/\(gN (wI (-(c+1)).toNat) r).headD 0=mm)
theorem zM.dec {c:Int} {mm:Int} (h:zM c t r mm):EK c t r=mm:=by
 unfold EK
 rcases h with⟨h1,h2⟩|⟨h1,h2⟩
 ·rw [if_neg (by omega)];exact h2.eq
 ·rw [if_pos h1];exact h2
theorem Cb {a:Int} {r r':RWD} (h:r'.traces=r.traces):gN a r'=gN a r:=by unfold gN;rw [h]
theorem zM.acc {c:Int} {mm:Int} (h:zM c t r mm) (kd a:Int) (x y:Nat):zM c (aX kd a x y t r).2.1 (aX kd a x y t r).2.2 mm:=by
 rcases h with⟨h1,h2⟩|⟨h1,h2⟩
 ·exact .inl ⟨h1,h2.acc kd a x y r⟩
 ·exact .inr ⟨h1,by rw [Cb (TM kd a x y t r).1];exact h2⟩
def lD (B:fD) (w':World) (n:Nat) (Rn:aJ×RWD) (K:List Nat->Int->Pq) (e:Ending):Prop:=
 ∃ V mm tt rr l,e=.returned (.tuple #[V,.int .i64 mm])/\gT B w' tt rr V l []/\(l=[]->V=.slice none 0 0)/\l.length<=n/\(∀ x,x∈l->x<18446744073709551616)/\(tt.halt=true->∃ o,Rn=(tt.out o,rr))/\(tt.halt=false->∃ c,Rn=(K l c).run tt rr/\zM c tt rr mm/\l.length=n)
theorem lD.halted {n:Nat} {Rn:aJ×RWD} {K:List Nat->Int->Pq} {tt:aJ} {rr:RWD} (h:RAt B w tt rr) (hh:tt.halt=true) (hr:∃ P:Pq,Rn=P.run tt rr):lD B w n Rn K (.returned (.tuple #[.slice none 0 0,.int .i64 0])):=by
 obtain⟨P,hP⟩:=hr
 obtain⟨o,ho⟩:=Pq.run_halt P tt rr hh
 exact⟨_,_,tt,rr,[],rfl,h.nilV,λ_=>rfl,Nat.zero_le _,(λx hx=>by cases hx),λ_=>⟨o,hP.trans ho⟩,λe=>by rw [hh] at e;cases e⟩
def bools (d:List Bool):Array Value:=(d.map Value.bool).toArray
theorem Jw {d:List Bool} {i:Nat} (hi:i<d.length):(bools d)[i]?=some (.bool (d.getD i false)):=by
 unfold bools
 rw [List.getElem?_toArray,List.getElem?_map,List.getElem?_eq_getElem hi,List.getD_eq_getElem?_getD,List.getElem?_eq_getElem hi];rfl
theorem Bi {d:List Bool} {i:Nat} {x:Bool}:(bools d).setIfInBounds i (.bool x)=bools (d.set i x):=by
 unfold bools
 rw [zq4,List.map_set]
theorem NL (c:Nat) (cs o:List Nat) (k:List Nat->Pq):iY (c::cs) o k=if c=0 then iY cs (o++[0]) k else .acc 0 (wI c) 0 0 kY λg=>iY cs (o++[g]) k:=rfl
theorem eT.headForm {B:fD} {w:World} {t:aJ} {r:RWD} {V:Value} {l:List Nat} {rs:PR} {bs:FF} (h:eT B w t r ((V,l)::rs) bs):∃ a c,V=.slice a l.length c:=(h.row _ List.mem_cons_self).form
theorem eT.two {B:fD} {u:World} {t1:aJ} {r1:RWD} {l1 ol:List Nat} {d:List Bool} {g g1 bD n c c1 j:Nat} (h:eT B u t1 r1 [(.slice (some ⟨g1,0,none⟩) n c1,l1),(.slice (some ⟨g,0,none⟩) n c,ol)] [(bD,.cells (bools d) 4 (0,0))]) (ho:ol.length=n) (h1:l1.length=n) (hd:d.length=n) (hj:j<n) :
  u.cell? ⟨g,j,none⟩=some (.int .u64 ((ol.getD j 0:Nat):Int))/\u.cell? ⟨g1,j,none⟩=some (.int .u64 ((l1.getD j 0:Nat):Int))/\u.cell? ⟨bD,j,none⟩=some (.bool (d.getD j false))/\u.frozen? ⟨bD,j,none⟩=false/\bD<u.heap.size:=by
 obtain⟨_,_,e1,a1,_,_⟩:=(h.row _ List.mem_cons_self).at (i:=j) (by show j<l1.length;omega)
 obtain⟨_,_,e2,a2,_,_⟩:=(h.row _ (List.mem_cons_of_mem _ List.mem_cons_self)).at (i:=j) (by show j<ol.length;omega)
 obtain rfl:=(Addr.mk.inj (Option.some.inj (Value.slice.inj e1).1)).1
 obtain rfl:=(Addr.mk.inj (Option.some.inj (Value.slice.inj e2).1)).1
 have hb:u.heap[bD]?=some (.cells (bools d) 4 (0,0)):=h.box _ List.mem_cons_self
 exact⟨a2,a1,by rw [aA hb];exact Jw (by omega),aB hb _,aC hb⟩
set_option maxHeartbeats 16000000 in
theorem UC (n:Nat) (hn1:1<=n) (hn:n<=16) (F:Nat) (K:List Nat->Int->Pq) (h:RAt B w t r) (hF:iC t<=F) (h0:t.at_=0) (hB:CB t r) (hlen:r.traces.length<=1000000) :
  Calls Tryz.prog 98 #[.pointer (some ⟨B.I.tb,B.I.pre.length,none⟩),.int .i64 (n:Int),.int .i64 0] w λe w'=>lD B w' n ((kR (gJ n) n F (List.replicate n false) K).run t r) K e:=by
 obtain⟨R,hR⟩:∃ R,R=(kR (gJ n) n F (List.replicate n false) K).run t r:=⟨_,rfl⟩
 rw [<-hR]
 obtain⟨_,_,hle,htl,_⟩:=h.lists
 have hR0:R=(AX (gJ n) n K F n (fB n 0 [] t r).1 (List.replicate n false)).run (fB n 0 [] t r).2.1 (fB n 0 [] t r).2.2:=by rw [hR];exact FJ _ _ _ _ _ _
 have Fp:=OA n 0 [] t r hle
 obtain⟨Zy,_⟩:=CG n 0 [] t r hle
 have Nk:=NF n 0 [] t r
 have hl0:=FE n 0 [] t r
 have hB0:=CB.coll n 0 [] hB
 have C0:=(eT.start h).collect n (by omega)
 obtain⟨Z,hZ⟩:∃ Z,Z=fB n 0 [] t r:=⟨_,rfl⟩
 rw [<-hZ] at hR0 Fp Zy Nk hl0 C0 hB0
 obtain⟨l0,t0,r0⟩:=Z
 simp only at hR0 Fp Zy Nk hl0 C0 hB0
 rw [h0,Nat.zero_add] at Fp
 rw [List.length_nil,Nat.zero_add] at hl0
 have HC0:=Lib.hid C0;have HR0:=Lib.hid hR0;have Hat0:=Lib.hid Fp;have Hmu0:=Lib.hid (Nat.le_trans Zy hF);have Htr0:=Lib.hid (show r0.traces.length<=1000000 by rw [Nk];exact hlen);have Hl0:=Lib.hid hl0;have HB0:=Lib.hid hB0
 clear hZ hR0 Fp Zy Nk hl0 C0 hR hle htl h hF h0 hlen hB hB0
 go_enter Tryz.func98,Tryz.ntmps98
 go_wp2_with fail
 refine HC0.out.mono ?_
 rintro e w1 ⟨V0,rfl,h1⟩
 have LC:=WY h1.at
 obtain⟨wh0,Qr⟩:∃ wh0,wh0=lI t0:=⟨_,rfl⟩
 rw [<-Qr] at LC
 have HL:=Lib.hid LC;have H1:=Lib.hid h1;have Hwh0:=Lib.hid Qr
 clear LC h1 Qr
 go_wp2_with fail
 refine HL.out.mono ?_
 rintro e w2 ⟨rfl,hb2⟩
 have H2:=Lib.hid (H1.out.grown hb2)
 clear hb2 H1 HL
 have hmk:=GR n (by omega) w2
 obtain⟨bD,hbD⟩:∃ bD,bD=w2.heap.size:=⟨_,rfl⟩
 obtain⟨w3,hw3⟩:∃ w3,w3=w2.alloc (.cells (List.replicate n (Value.bool false)).toArray 4):=⟨_,rfl⟩
 rw [<-hbD,<-hw3] at hmk
 have hB:(List.replicate n (Value.bool false)).toArray=bools (List.replicate n false):=by unfold bools;rw [List.map_replicate]
 have h3:eT B w3 t0 r0 [(V0,l0)] [(bD,.cells (bools (List.replicate n false)) 4 (0,0))]:=by
  have h9:=H2.out.newBox (.cells (bools (List.replicate n false)) 4 (0,0))
  rw [<-hB] at h9
  rw [<-hB,hw3,hbD]
  exact h9
 have H3:=Lib.hid h3
 clear hbD hw3 hB h3 H2
 go_upto_region 5 with fail
 clear hmk
 go_loopw [8,9,11] (λov wv xv wr=>xv=.slice none 0 0/\∃(g c:Nat) (wh:Int) (ol:List Nat) (tj:aJ) (rj:RWD) (f i:Nat) (d:List Bool),ov=.slice (some ⟨g,0,none⟩) n c/\wv=.int .i64 wh/\eT B wr tj rj [(.slice (some ⟨g,0,none⟩) n c,ol)] [(bD,.cells (bools d) 4 (0,0))]/\ol.length=n/\d.length=n/\R=(AX (gJ n) n K f i ol d).run tj rj/\iC tj<=f/\rj.traces.length<=1000000/\CB tj rj/\(tj.halt=false->tj.at_=i/\LM tj i wh)) (λ_ _ _ wr=>tmW B.I.tb B.I.pre.length wr)
 case atStart=>
  obtain⟨g,c,hV⟩:∃ g c,V0=.slice (some ⟨g,0,none⟩) n c:=by
   obtain⟨a,b,e,_⟩:=(H3.out.row _ List.mem_cons_self).at (i:=0) (by show 0<l0.length;rw [Hl0.out];omega)
   exact⟨a,b,by rw [<-Hl0.out];exact e⟩
  subst hV
  refine⟨rfl,g,c,wh0,l0,t0,r0,F,n,List.replicate n false,rfl,rfl,H3.out,Hl0.out,by simp,HR0.out,Hmu0.out,Htr0.out,HB0.out,λe=>⟨Hat0.out e,hn1,?_,?_⟩⟩
  ·obtain⟨_,_,a1,a2,_⟩:=H3.out.at.lists
   have:=Hat0.out e;omega
  ·rw [Hwh0.out]
   unfold lI
   rw [if_neg (by have:=Hat0.out e;omega),Hat0.out e]
 case round=>
  obtain⟨rfl,g,c,wh,ol,tj,rj,f,i,d,rfl,rfl,hR,hol,hd,hr,hmu,htr,hBj,htk⟩:=hrel
  clear H3 HR0 Hat0 Hmu0 Htr0 Hl0 Hwh0 HB0
  have x7:=hR.at.cHalt
  cases hh:tj.halt with
  | true=>
   rw [hh] at x7
   have F9:=Lib.hid (show lD B wr n R K (.returned (.tuple #[.slice none 0 0,.int .i64 0])) from lD.halted hR.at hh ⟨_,hr⟩)
   clear hR hol hd hr hmu htr htk hh hBj
   go_wp2
   (go_ret2)
   exact F9.out
  | false=>
   rw [hh] at x7
   obtain⟨ha,hk⟩:=htk hh
   have aAE:1<=iC tj:=by unfold iC;rw [if_neg (by rw [hh];exact Bool.false_ne_true)];omega
   obtain⟨f',rfl⟩:∃ f',f=f'+1:=⟨f - 1,by omega⟩
   obtain⟨_,_,hle,_,_⟩:=hR.at.lists
   have C1:=hR.collect n (by omega)
   have hr1:R=(if (gJ n d ol (fB n 0 [] tj rj).1).1=true then iY (fB n 0 [] tj rj).1 [] λo=>K o (i:Int)
     else if (gJ n d ol (fB n 0 [] tj rj).1).2.1≠0 then CQ (gJ n d ol (fB n 0 [] tj rj).1).2.1 n 0 [] λo=>K o (-((gJ n d ol (fB n 0 [] tj rj).1).2.1:Int) - 1)
     else AX (gJ n) n K f' (i+n) (fB n 0 [] tj rj).1 (gJ n d ol (fB n 0 [] tj rj).1).2.2).run (fB n 0 [] tj rj).2.1 (fB n 0 [] tj rj).2.2:=by
    rw [hr];exact FJ _ _ _ _ _ _
   obtain⟨_,m2⟩:=CG n 0 [] tj rj hle
   have m3:=OA n 0 [] tj rj hle
   have m4:=NF n 0 [] tj rj
   have m5:=FE n 0 [] tj rj
   have m6:=LM.coll n 0 [] rj hk
   have m7:=CB.coll n 0 [] hBj
   obtain⟨Z,hZ⟩:∃ Z,Z=fB n 0 [] tj rj:=⟨_,rfl⟩
   rw [<-hZ] at C1 hr1 m2 m3 m4 m5 m6 m7
   obtain⟨l1,t1,r1⟩:=Z
   simp only at C1 hr1 m2 m3 m4 m5 m6 m7
   rw [List.length_nil,Nat.zero_add] at m5
   have HC:=Lib.hid C1;have Hr1:=Lib.hid hr1;have M2:=Lib.hid m2;have M3:=Lib.hid m3;have M4:=Lib.hid (show r1.traces.length<=1000000 by rw [m4];exact htr);have M5:=Lib.hid m5;have M6:=Lib.hid m6;have M7:=Lib.hid m7;have Hol:=Lib.hid hol;have Hd:=Lib.hid hd;have Hmu:=Lib.hid hmu;have Ha:=Lib.hid ha;have Htm:=Lib.hid (Ii hR.at)
   clear hZ C1 hr1 m2 m3 m4 m5 m6 m7 hBj hR hol hd hr hmu htr htk hh ha hk hle aAE
   go_upto_region 7 with(go_at_call 112;refine HC.out.mono ?_;rintro e w5 ⟨V1,rfl,h5⟩;have x7':=h5.at.cHalt;have H5:=Lib.hid h5;clear h5)
   clear x7
   cases hh:t1.halt with
   | true=>
    rw [hh] at x7'
    have F9:=Lib.hid (show lD B w5 n R K (.returned (.tuple #[.slice none 0 0,.int .i64 0])) from lD.halted H5.out.at hh ⟨_,Hr1.out⟩)
    clear hh
    go_wp2
    (go_ret2)
    exact F9.out
   | false=>
    rw [hh] at x7'
    have Hh:=Lib.hid hh
    clear hh
    obtain⟨g1,c1,hV1⟩:∃ g1 c1,V1=.slice (some ⟨g1,0,none⟩) n c1:=by
     obtain⟨a,b,e,_⟩:=(H5.out.row _ List.mem_cons_self).at (i:=0) (by show 0<l1.length;rw [M5.out];omega)
     exact⟨a,b,by rw [<-M5.out];exact e⟩
    subst hV1
    go_upto_region 10 with fail
    clear x7'
    go_loopw [42,13,14] (λiv sv fv wr=>∃(j:Nat) (s:Bool) (fr:Nat) (dj:List Bool),iv=.int .i64 (j:Int)/\sv=.bool s/\fv=.int .u64 (fr:Int)/\eT B wr t1 r1 [(.slice (some ⟨g1,0,none⟩) n c1,l1),(.slice (some ⟨g,0,none⟩) n c,ol)] [(bD,.cells (bools dj) 4 (0,0))]/\j<=n/\dj.length=n/\gJ n d ol l1=vC ol l1 (n - j) j s fr dj) (λiv _ _ _=>n - (intOf iv).toNat)
    case atStart=>exact⟨0,true,0,d,rfl,rfl,rfl,H5.out,Nat.zero_le _,Hd.out,rfl⟩
    case round=>
     obtain⟨j,s,fr,dj,rfl,rfl,rfl,h6,hj,hdj,hcm⟩:=hrel
     clear H5
     by_cases hlt:j<n
     ·have l1':(j:Int)<(n:Int):=by omega
      obtain⟨x,hx⟩:∃ x,x=ol.getD j 0:=⟨_,rfl⟩
      obtain⟨y,hy⟩:∃ y,y=l1.getD j 0:=⟨_,rfl⟩
      obtain⟨bb,hbb⟩:∃ bb,bb=dj.getD j false:=⟨_,rfl⟩
      have TW:=λ(u:World) (hu:eT B u t1 r1 [(.slice (some ⟨g1,0,none⟩) n c1,l1),(.slice (some ⟨g,0,none⟩) n c,ol)] [(bD,.cells (bools dj) 4 (0,0))])=>hu.two Hol.out M5.out hdj hlt
      rw [<-hx,<-hy,<-hbb] at TW
      obtain⟨y1,y2,_,_,_⟩:=TW wr h6
      have hst:gJ n d ol l1=if x=y then vC ol l1 (n - (j+1)) (j+1) s fr dj else vC ol l1 (n - (j+1)) (j+1) false (if bb=true/\fr=0 then y else fr) (dj.set j true):=by
       rw [hcm,show n - j=(n - (j+1))+1 by omega,hx,hy,hbb];rfl
      have H6:=Lib.hid h6;have HTW:=Lib.hid TW;have Hdj:=Lib.hid hdj;have Hlt:=Lib.hid hlt
      by_cases hxy:x=y
      ·have d1:((x:Int) ==(y:Int))=true:=by simp [hxy]
       have d2:(x:Int)=(y:Int):=by omega
       rw [if_pos hxy] at hst
       have Hst:=Lib.hid hst
       clear hst h6 TW hdj hcm hx hy hbb hlt hj
       go_upto_region 12 with fail
       go_quiet (fail)
       have H7:=Lib.hid (H6.out.grown (below_drewN (Gr.refl wr) nq))
       go_wp2
       go_roundw
       case rel=>exact⟨j+1,s,fr,dj,by go_num,rfl,rfl,H7.out,Hlt.out,Hdj.out,Hst.out⟩
       case measure=>(have:=Hlt.out;simp [intOf]<;>omega)
      ·have d1:((x:Int) ==(y:Int))=false:=by simp;omega
       have d2:¬ (x:Int)=(y:Int):=by omega
       rw [if_neg hxy] at hst
       have Hst:=Lib.hid hst
       clear hst h6 TW hdj hcm hx hy hbb hlt hj
       go_upto_region 12 with fail
       go_quiet (fail)
       have H7:=Lib.hid (H6.out.grown (below_drewN (Gr.refl wr) nq))
       obtain⟨w7,hw7⟩:∃ w7,w7=wr.drewN nq:=⟨_,rfl⟩
       rw [<-hw7] at H7 ⊢
       obtain⟨z1,z2,z3,zf,zl⟩:=HTW.out w7 H7.out
       have H8:=Lib.hid (show eT B (w7.setCell ⟨bD,j,none⟩ (.bool true)) t1 r1 [(.slice (some ⟨g1,0,none⟩) n c1,l1),(.slice (some ⟨g,0,none⟩) n c,ol)] [(bD,.cells (bools (dj.set j true)) 4 (0,0))] from by
        have h9:=H7.out.setBox (λy hy=>by cases hy) j (.bool true)
        rw [Bi] at h9;exact h9)
       clear hw7 H7 y1 y2
       have Hds:=Lib.hid (show(dj.set j true).length=n by rw [List.length_set];exact Hdj.out)
       by_cases Rl:bb=true/\fr=0
       ·obtain⟨rfl,rfl⟩:=Rl
        have Hs2:=Lib.hid (show gJ n d ol l1=vC ol l1 (n - (j+1)) (j+1) false y (dj.set j true) from by rw [Hst.out,if_pos ⟨rfl,rfl⟩])
        go_wp2
        go_roundw
        case rel=>exact⟨j+1,false,y,dj.set j true,by go_num,rfl,rfl,H8.out,Hlt.out,Hds.out,Hs2.out⟩
        case measure=>(have:=Hlt.out;simp [intOf]<;>omega)
       ·have Hs2:=Lib.hid (show gJ n d ol l1=vC ol l1 (n - (j+1)) (j+1) false fr (dj.set j true) from by rw [Hst.out,if_neg Rl])
        have hfr:bb=true->((fr:Int) == 0)=false/\¬ (fr:Int)=0:=λe=>by
         have h9:fr≠0:=λe9=>Rl ⟨e,e9⟩
         exact⟨by simp;omega,by omega⟩
        cases hbv:bb with
        | false=>
         rw [hbv] at z3
         clear hfr Rl hbv
         go_wp2
         go_roundw
         case rel=>exact⟨j+1,false,fr,dj.set j true,by go_num,rfl,rfl,H8.out,Hlt.out,Hds.out,Hs2.out⟩
         case measure=>(have:=Hlt.out;simp [intOf]<;>omega)
        | true=>
         rw [hbv] at z3
         obtain⟨q1,q2⟩:=hfr hbv
         clear hfr Rl hbv
         go_wp2
         go_roundw
         case rel=>exact⟨j+1,false,fr,dj.set j true,by go_num,rfl,rfl,H8.out,Hlt.out,Hds.out,Hs2.out⟩
         case measure=>(have:=Hlt.out;simp [intOf]<;>omega)
     ·have l1':¬ (j:Int)<(n:Int):=by omega
      obtain rfl:j=n:=by omega
      have hc2:gJ j d ol l1=(s,fr,dj):=by rw [hcm,Nat.sub_self];rfl
      have hr1:=Hr1.out
      rw [hc2] at hr1
      simp only at hr1
      have H6:=Lib.hid h6;have Hdj:=Lib.hid hdj
      clear Hr1 hcm hc2 h6 hdj hlt hj
      cases s with
      | true=>
       rw [if_pos rfl] at hr1
       have Hr:=Lib.hid hr1
       clear hr1
       have H7:=Lib.hid H6.out.nilRow
       go_upto_region 20 with fail
       go_loopw [72,11] (λiv ov wr=>∃(q:Nat) (o:List Nat) (tt:aJ) (rr:RWD),iv=.int .i64 (q:Int)/\q<=j/\eT B wr tt rr [(ov,o),(.slice (some ⟨g1,0,none⟩) j c1,l1),(.slice (some ⟨g,0,none⟩) j c,ol)] [(bD,.cells (bools dj) 4 (0,0))]/\o.length=q/\R=(iY (l1.drop q) o (λo=>K o (i:Int))).run tt rr/\LM tt i wh/\CB tt rr/\∀ x,x∈o->x<18446744073709551616) (λiv _ _=>j - (intOf iv).toNat)
       case atStart=>exact⟨0,[],t1,r1,rfl,Nat.zero_le _,H7.out,rfl,Hr.out,M6.out,M7.out,(λx hx=>by cases hx)⟩
       case round=>
        obtain⟨q,o,tt,rr,rfl,hq,h8,ho,hr,hk,hBt,hob⟩:=hrel
        clear H7 H6 Hr
        obtain⟨va,vc,rfl⟩:=h8.headForm
        obtain⟨L,hL⟩:∃ L,L=o.length:=⟨_,rfl⟩
        rw [<-hL] at h8 ⊢
        by_cases hlt:q<j
        ·have l2':(q:Int)<(j:Int):=by omega
         obtain⟨x,hx⟩:∃ x,x=l1.getD q 0:=⟨_,rfl⟩
         have hdr:l1.drop q=x::l1.drop (q+1):=by
          have hql:q<l1.length:=by rw [M5.out];exact hlt
          rw [List.drop_eq_getElem_cons hql,hx,List.getD_eq_getElem?_getD,List.getElem?_eq_getElem hql];rfl
         obtain⟨_,_,e1,y2,_,_⟩:=(h8.row _ (List.mem_cons_of_mem _ List.mem_cons_self)).at (i:=q) (by show q<l1.length;rw [M5.out];exact hlt)
         obtain rfl:=(Addr.mk.inj (Option.some.inj (Value.slice.inj e1).1)).1
         simp only at y2
         rw [<-hx] at y2
         rw [hdr] at hr
         have hL9:L<=1000000:=by omega
         have hrow:wr.ownsRow 0 46 1 (.slice va L vc) L (o.map bI):=by have h9:=h8.row _ List.mem_cons_self;simp only [vT] at h9;rw [<-hL] at h9;exact h9
         have Hq:=Lib.hid hlt;have HL:=Lib.hid hL;have Ho:=Lib.hid ho
         by_cases hx0:x=0
         ·subst hx0
          have hr2:R=(iY (l1.drop (q+1)) (o++[0]) (λo=>K o (i:Int))).run tt rr:=by rw [hr,NL,if_pos rfl]
          have Hr2:=Lib.hid hr2;have Hk:=Lib.hid hk;have H8:=Lib.hid h8;have Hrow:=Lib.hid hrow;have HBt:=Lib.hid hBt;have Hob:=Lib.hid (MP hob (show 0<18446744073709551616 by decide))
          clear hr2 hr hk h8 hrow hdr hx e1 hlt hL ho hq hBt hob
          go_wp2_with (at_builtin;refine jX rfl _ _ rfl _ o L HL.out hL9 rfl (dV Hrow.out (Gr.new _ _)) wr.heap.size 0 rfl (heap_alloc_new _ _) ?_;intro g7 vc7 M w7 hM yM iD MZ YJ;have HV7:=Lib.hid (H8.out.append HL.out hM yM iD MZ);have HM:=Lib.hid hM;clear hM yM iD MZ YJ)
          go_roundw
          case rel=>exact⟨q+1,o++[0],tt,rr,by go_num,Hq.out,HV7.out,by simp [Ho.out],Hr2.out,Hk.out,HBt.out,Hob.out⟩
          case measure=>(have:=Hq.out;simp [intOf]<;>omega)
         ·have e2:((x:Int) == 0)=false:=by simp;omega
          have e3:((x:Int) != 0)=true:=by simp;omega
          have e4:¬ (x:Int)=0:=by omega
          obtain⟨A,hA⟩:∃ A,A=wI x:=⟨_,rfl⟩
          have a1:IntKind.i64.wrap (x:Int)=A:=hA.symm
          have hr2:R=(iY (l1.drop (q+1)) (o++[(aX 0 A 0 0 tt rr).1]) (λo=>K o (i:Int))).run (aX 0 A 0 0 tt rr).2.1 (aX 0 A 0 0 tt rr).2.2:=by
           rw [hr,hA,NL,if_neg hx0]
           show(iY (l1.drop (q+1)) (o++[(aX 0 (wI x) 0 0 tt rr).1]) _).run _ (vV kY _ _)=_
           rw [CV]
          have RD:=h8.read A
          have hk2:=hk.acc 0 A 0 0 rr
          have hB2:=hBt.read A
          obtain⟨Y,hY⟩:∃ Y,Y=aX 0 A 0 0 tt rr:=⟨_,rfl⟩
          rw [<-hY] at hr2 RD hk2 hB2
          obtain⟨v,t2,r2⟩:=Y
          simp only at hr2 RD hk2 hB2
          have HRD:=Lib.hid RD;have Hr2:=Lib.hid hr2;have Hk:=Lib.hid hk2;have HB2:=Lib.hid hB2.2;have Hob:=Lib.hid (MP hob hB2.1)
          clear RD hr2 hk2 hY hr hk h8 hrow hdr hx e1 hlt hL ho hq hA hx0 hB2 hBt hob
          go_wp2_with (first|(go_at_call 88;refine HRD.out.mono ?_;rintro e w5 ⟨rfl,hV5⟩;have HV5:=Lib.hid hV5;have fV:w5.ownsRow 0 46 1 (.slice va L vc) L (o.map bI):=(by have h9:=hV5.row _ List.mem_cons_self;simp only [vT] at h9;rw [<-HL.out] at h9;exact h9);have HR5:=Lib.hid fV;clear fV hV5)|(at_builtin;refine jX rfl _ _ rfl _ o L HL.out hL9 rfl (dV HR5.out (Gr.new _ _)) w5.heap.size v rfl (heap_alloc_new _ _) ?_;intro g7 vc7 M w7 hM yM iD MZ YJ;have HV7:=Lib.hid (HV5.out.append HL.out hM yM iD MZ);have HM:=Lib.hid hM;clear hM yM iD MZ YJ))
          go_roundw
          case rel=>exact⟨q+1,o++[v],t2,r2,by go_num,Hq.out,HV7.out,by simp [Ho.out],Hr2.out,Hk.out,HB2.out,Hob.out⟩
          case measure=>(have:=Hq.out;simp [intOf]<;>omega)
        ·have l2':¬ (q:Int)<(j:Int):=by omega
         obtain rfl:q=j:=by omega
         have hdr:l1.drop q=[]:=List.drop_eq_nil_of_le (by rw [M5.out];exact Nat.le_refl _)
         rw [hdr] at hr
         have hr2:R=(K o (i:Int)).run tt rr:=hr
         have F9:=Lib.hid (show lD B wr q R K (.returned (.tuple #[.slice va L vc,.int .i64 wh])) from
          ⟨_,_,tt,rr,o,rfl,h8.one,(λe=>by rw [e] at ho;simp only [List.length_nil] at ho;omega),by omega,hob,λe=>(by
           obtain⟨o9,h9⟩:=Pq.run_halt (K o (i:Int)) tt rr e
           exact⟨o9,hr2.trans h9⟩),λe=>⟨(i:Int),hr2,.inl ⟨by omega,by rw [Int.toNat_natCast];exact hk⟩,ho⟩⟩)
         clear hr2 hr hk h8 hdr hlt hL ho hq hBt hob
         go_wp2
         (go_ret2)
         exact F9.out
      | false=>
       rw [if_neg (by exact Bool.false_ne_true)] at hr1
       by_cases hf0:fr=0
       ·subst hf0
        rw [if_neg (λe=>e rfl)] at hr1
        have LC:=WY H6.out.at
        obtain⟨wl,hwl⟩:∃ wl,wl=lI t1:=⟨_,rfl⟩
        rw [<-hwl] at LC
        have HL:=Lib.hid LC;have Hr:=Lib.hid hr1;have Hwl:=Lib.hid hwl
        clear LC hr1 hwl
        go_wp2_with (go_at_call 93;refine HL.out.mono ?_;rintro e w9 ⟨rfl,uZ⟩)
        have H9:=Lib.hid (H6.out.grown uZ)
        go_roundw
        case rel=>
         refine⟨rfl,g1,c1,wl,l1,t1,r1,f',i+j,dj,rfl,rfl,H9.out.less (λx hx=>by
          obtain rfl:x=_:=List.mem_singleton.1 hx
          exact List.mem_cons_self) (λx hx=>hx) (List.pairwise_singleton _ _),M5.out,Hdj.out,Hr.out,?_,M4.out,M7.out,λ_=>⟨?_,by omega,?_,?_⟩⟩
         ·have:=(M2.out Hh.out).2
          have:=Hmu.out
          omega
         ·rw [M3.out Hh.out,Ha.out]
         ·obtain⟨_,_,a1,a2,_⟩:=H9.out.at.lists
          have:=M3.out Hh.out
          have:=Ha.out
          omega
         ·rw [Hwl.out]
          unfold lI
          have e1:=M3.out Hh.out
          rw [Ha.out] at e1
          rw [if_neg (by omega),e1]
        case measure=>
         have e1:=Ii H9.out.at
         have e2:=(M2.out Hh.out).2
         rw [e1,Htm.out]
         omega
       ·rw [if_pos hf0] at hr1
        have Hr:=Lib.hid hr1
        obtain⟨A0,hA0⟩:∃ A0,A0=wI fr:=⟨_,rfl⟩
        obtain⟨A1,hA1⟩:∃ A1,A1=IntKind.i64.wrap (A0+1):=⟨_,rfl⟩
        have a0:IntKind.i64.wrap (fr:Int)=A0:=hA0.symm
        have a1:IntKind.i64.wrap (A0+1)=A1:=hA1.symm
        have hb0:-9223372036854775808<=A0/\A0<9223372036854775808:=by rw [<-a0,IntKind.wrap_i64];omega
        have q1:((fr:Int) != 0)=true:=by simp;omega
        have q2:((fr:Int) == 0)=false:=by simp;omega
        have q3:¬ (fr:Int)=0:=by omega
        have HA0:=Lib.hid hA0;have HA1:=Lib.hid hA1;have Hb0:=Lib.hid hb0;have Hf0:=Lib.hid hf0
        clear hr1 hA0 hA1 hb0 hf0
        have H7:=Lib.hid H6.out.nilRow
        go_upto_region 30 with fail
        go_loopw [97,11] (λiv ov wr=>∃(q:Nat) (o:List Nat) (tt:aJ) (rr:RWD),iv=.int .i64 (q:Int)/\q<=j/\eT B wr tt rr [(ov,o),(.slice (some ⟨g1,0,none⟩) j c1,l1),(.slice (some ⟨g,0,none⟩) j c,ol)] [(bD,.cells (bools dj) 4 (0,0))]/\o.length=q/\R=(CQ fr (j - q) q o (λo=>K o (-(fr:Int) - 1))).run tt rr/\rr.traces.length<=1000000/\CB tt rr/\∀ x,x∈o->x<18446744073709551616) (λiv _ _=>j - (intOf iv).toNat)
        case atStart=>exact⟨0,[],t1,r1,rfl,Nat.zero_le _,H7.out,rfl,Hr.out,M4.out,M7.out,(λx hx=>by cases hx)⟩
        case round=>
         obtain⟨q,o,tt,rr,rfl,hq,h8,ho,hr,htr,hBt,hob⟩:=hrel
         clear H7 H6 Hr
         obtain⟨va,vc,rfl⟩:=h8.headForm
         obtain⟨L,hL⟩:∃ L,L=o.length:=⟨_,rfl⟩
         rw [<-hL] at h8 ⊢
         by_cases hlt:q<j
         ·have l2':(q:Int)<(j:Int):=by omega
          have hL9:L<=1000000:=by omega
          obtain⟨A,hA⟩:∃ A,A=Cu fr q:=⟨_,rfl⟩
          have a2:IntKind.i64.wrap (A1+(q:Int))=A:=by rw [hA,HA1.out,HA0.out];rfl
          have hr2:R=(CQ fr (j - (q+1)) (q+1) (o++[(aX 0 A 0 0 tt rr).1]) (λo=>K o (-(fr:Int) - 1))).run (aX 0 A 0 0 tt rr).2.1 (aX 0 A 0 0 tt rr).2.2:=by
           rw [hr,hA,show j - q=(j - (q+1))+1 by omega]
           show(CQ fr (j - (q+1)) (q+1) (o++[(aX 0 (Cu fr q) 0 0 tt rr).1]) _).run _ (vV kY _ _)=_
           rw [CV]
          have RD:=h8.read A
          have hB2:=hBt.read A
          have Na:(aX 0 A 0 0 tt rr).2.2.traces.length<=1000000:=by rw [(TM 0 A 0 0 tt rr).1];exact htr
          obtain⟨Y,hY⟩:∃ Y,Y=aX 0 A 0 0 tt rr:=⟨_,rfl⟩
          rw [<-hY] at hr2 RD Na hB2
          obtain⟨v,t2,r2⟩:=Y
          simp only at hr2 RD Na hB2
          have HRD:=Lib.hid RD;have Hr2:=Lib.hid hr2;have Ht2:=Lib.hid Na;have HB2:=Lib.hid hB2.2;have Hob:=Lib.hid (MP hob hB2.1);have Hq:=Lib.hid hlt;have HL:=Lib.hid hL;have Ho:=Lib.hid ho
          clear RD hr2 Na hY hr h8 hlt hL ho hq hA htr hB2 hBt hob
          go_wp2_with (first|(go_at_call 88;refine HRD.out.mono ?_;rintro e w5 ⟨rfl,hV5⟩;have HV5:=Lib.hid hV5;have fV:w5.ownsRow 0 46 1 (.slice va L vc) L (o.map bI):=(by have h9:=hV5.row _ List.mem_cons_self;simp only [vT] at h9;rw [<-HL.out] at h9;exact h9);have HR5:=Lib.hid fV;clear fV hV5)|(at_builtin;refine jX rfl _ _ rfl _ o L HL.out hL9 rfl (dV HR5.out (Gr.new _ _)) w5.heap.size v rfl (heap_alloc_new _ _) ?_;intro g7 vc7 M w7 hM yM iD MZ YJ;have HV7:=Lib.hid (HV5.out.append HL.out hM yM iD MZ);have HM:=Lib.hid hM;clear hM yM iD MZ YJ))
          go_roundw
          case rel=>exact⟨q+1,o++[v],t2,r2,by go_num,Hq.out,HV7.out,by simp [Ho.out],Hr2.out,Ht2.out,HB2.out,Hob.out⟩
          case measure=>(have:=Hq.out;simp [intOf]<;>omega)
         ·have l2':¬ (q:Int)<(j:Int):=by omega
          obtain rfl:q=j:=by omega
          rw [Nat.sub_self] at hr
          have hr2:R=(K o (-(fr:Int) - 1)).run tt rr:=hr
          have TC:=Di h8.at A0 htr Hb0.out
          obtain⟨tl,htl⟩:∃ tl,tl=gN A0 rr:=⟨_,rfl⟩
          rw [<-htl] at TC
          have F9:=Lib.hid (λ(u:World) (hu:Below wr.heap.size wr u)=>show lD B u q R K (.returned (.tuple #[.slice va L vc,.int .i64 (tl.headD 0)])) from
           ⟨_,_,tt,rr,o,rfl,h8.one.grown hu,(λe=>by rw [e] at ho;simp only [List.length_nil] at ho;omega),by omega,hob,λe=>(by
            obtain⟨o9,h9⟩:=Pq.run_halt (K o (-(fr:Int) - 1)) tt rr e
            exact⟨o9,hr2.trans h9⟩),λe=>⟨-(fr:Int) - 1,hr2,.inr ⟨by omega,by rw [show(-(-(fr:Int) - 1+1)).toNat=fr by omega,<-HA0.out,<-htl]⟩,ho⟩⟩)
          have HTC:=Lib.hid TC
          clear TC htl hr2 hr h8 hlt hL ho hq htr hBt hob
          cases tl with
          | nil=>
           go_wp2_with (go_at_call 95;refine HTC.out.mono ?_;rintro e w9 ⟨xa,xc,rfl,rfl,hsl⟩)
           (go_ret2)
           exact F9.out _ (Below.refl _ _)
          | cons z tz=>
           obtain⟨tn,htn⟩:∃ tn,tn=(z::tz).length:=⟨_,rfl⟩
           rw [<-htn] at HTC
           have hn0:((tn:Int) == 0)=false:=by rw [htn];simp only [List.length_cons];rw [beq_eq_false_iff_ne];omega
           have Sn:(0:Int)<(tn:Int):=by rw [htn];simp only [List.length_cons];omega
           have Htn:=Lib.hid htn
           clear htn
           go_upto_region 37 with(go_at_call 95;refine HTC.out.mono ?_;rintro e w9 ⟨xa,xc,rfl,rfl,hsl⟩;obtain⟨gz,oz,rfl,hgz,hcz⟩:=hsl.2 0 (by rw [Htn.out];simp);have z0:wr.cell? ⟨gz,oz,none⟩=some (.int .i64 z):=(by have h9:=hcz 0 (by omega);rw [Nat.mul_one,Nat.add_zero] at h9;exact h9);clear hcz hsl)
           go_quiet (fail)
           have hbq:=below_drewN (Gr.refl wr) nq
           go_wp2
           (go_ret2)
           exact F9.out _ hbq
end
section
open Go.RowKit
theorem zB (w:World) (kd sP sQ th kn:Int) (xa xb xc:Nat):∃ wb,wb=(w.alloc (.cells #[.int .i64 kd,.int .i64 sP,.int .i64 sQ] 39)).alloc (.cells #[.int .i64 th,.int .i64 0,.int .i64 kn,.int .u64 (xa:Int),.int .u64 (xb:Int),.int .u64 (xc:Int)] 48)/\Below w.heap.size w wb/\
  wb.heap[w.heap.size]?=some (.cells #[.int .i64 kd,.int .i64 sP,.int .i64 sQ] 39 (0,0))/\wb.heap[w.heap.size+1]?=some (.cells #[.int .i64 th,.int .i64 0,.int .i64 kn,.int .u64 (xa:Int),.int .u64 (xb:Int),.int .u64 (xc:Int)] 48 (0,0)):=by
 refine⟨_,rfl,Gr.alloc (Gr.new _ _) _,?_,?_⟩
 ·rw [Below.heap_alloc _ _ _ (by simp)];exact heap_alloc_new _ _
 ·have:=heap_alloc_new (w.alloc (.cells #[.int .i64 kd,.int .i64 sP,.int .i64 sQ] 39)) (.cells #[.int .i64 th,.int .i64 0,.int .i64 kn,.int .u64 (xa:Int),.int .u64 (xb:Int),.int .u64 (xc:Int)] 48 (0,0))
  simp only [World.size_alloc] at this
  exact this
set_option maxHeartbeats 4000000 in
theorem Nu {B:fD} {w:World} {t:aJ} {r:RWD} (P:World->Prop) (n:Nat) (sP sQ th kn:Int) (xa xb xc:Nat) (h:RAt B w t r) (FC:∀ u,RAt B u t r->Calls Tryz.prog 70 #[.pointer (some ⟨B.I.tb,B.I.pre.length,none⟩),.int .i64 (n:Int),.int .i64 0,.agg #[.int .i64 5,.int .i64 sP,.int .i64 sQ],.agg #[.int .i64 th,.int .i64 0,.int .i64 kn,.int .u64 (xa:Int),.int .u64 (xb:Int),.int .u64 (xc:Int)]] u λe u'=>e=.returned (.tuple #[])/\P u') :
  Calls Tryz.prog 56 #[.pointer (some ⟨B.I.tb,B.I.pre.length,none⟩),.int .i64 (n:Int),.int .i64 0,.agg #[.int .i64 5,.int .i64 sP,.int .i64 sQ],.agg #[.int .i64 th,.int .i64 0,.int .i64 kn,.int .u64 (xa:Int),.int .u64 (xb:Int),.int .u64 (xc:Int)]] w λe u'=>e=.returned (.tuple #[])/\P u':=by
 obtain⟨wb,hwb,hg,hS,hC⟩:=zB w 5 sP sQ th kn xa xb xc
 have HC:=Lib.hid (FC wb (h.grown hg));have Hwb:=Lib.hid hwb
 clear FC h hg hwb
 have s0:wb.cell? ⟨w.heap.size,0,none⟩=some (.int .i64 5):=by rw [aA hS];rfl
 have s1:wb.cell? ⟨w.heap.size,1,none⟩=some (.int .i64 sP):=by rw [aA hS];rfl
 have s2:wb.cell? ⟨w.heap.size,2,none⟩=some (.int .i64 sQ):=by rw [aA hS];rfl
 have y0:wb.cell? ⟨w.heap.size+1,0,none⟩=some (.int .i64 th):=by rw [aA hC];rfl
 have y1:wb.cell? ⟨w.heap.size+1,1,none⟩=some (.int .i64 0):=by rw [aA hC];rfl
 have y2:wb.cell? ⟨w.heap.size+1,2,none⟩=some (.int .i64 kn):=by rw [aA hC];rfl
 have y3:wb.cell? ⟨w.heap.size+1,3,none⟩=some (.int .u64 (xa:Int)):=by rw [aA hC];rfl
 have y4:wb.cell? ⟨w.heap.size+1,4,none⟩=some (.int .u64 (xb:Int)):=by rw [aA hC];rfl
 have y5:wb.cell? ⟨w.heap.size+1,5,none⟩=some (.int .u64 (xc:Int)):=by rw [aA hC];rfl
 clear hS hC
 go_enter Tryz.func56,Tryz.ntmps56
 go_upto_region 1 with fail
 rw [<-Hwb.out]
 go_wp2_with (go_at_call 70;refine HC.out.mono ?_;rintro e w2 ⟨rfl,h2⟩)
 (go_end0)
 exact⟨rfl,h2⟩
end
section
open Go.RowKit
set_option maxHeartbeats 4000000 in
theorem WS (kd P Q:Int) (n:Nat) (hk:kd≠4):QZ kd P Q n (λ_ p _ r=>r.marks.getD p []):=by
 intro B u c t r h hok hob hp hinv hgot htk hml hA
 obtain⟨wb,hwb,hg,hS,hC⟩:=zB u kd P Q c.thread c.kind c.a c.b c.c
 have hA2:=hA.grown hg
 obtain⟨G,K,L,h1,h2⟩:=id hA2
 obtain⟨PV,LV,KV,ht,_⟩:=h1.tape
 obtain⟨ms,hM,hmn,hms⟩:=h1.marks.blk
 have hnM:B.I.nM=n:=by rw [<-hml];exact h1.marks.len.symm
 have hpm:t.thread<B.I.nM:=by rw [hnM];exact hp
 have hfin:wQ B wb t r (ms.getD t.thread undef) (r.marks.getD t.thread []):=⟨G,K,L,h1,h2,hms _ hpm⟩
 obtain⟨wa,cap,_,hW,_⟩:=ht.mem.blk
 have d0:wb.cell? ⟨B.I.tb,B.I.pre.length,none⟩=some (.pointer (some ⟨B.I.bW,0,none⟩)):=ht.cell0
 have d1:=hA2.cThread
 have d7:wb.cell? ⟨B.I.bW,7,none⟩=some (.slice (some ⟨B.I.bM,0,none⟩) B.I.nM B.I.nM):=by
  have hW':wb.heap[B.I.bW]?=_:=hW
  rw [aA hW'];rfl
 have dm:wb.cell? ⟨B.I.bM,t.thread,none⟩=some (ms.getD t.thread undef):=by
  rw [aA hM]
  simp [List.getD_eq_getElem?_getD,show t.thread<ms.length by omega]
 obtain⟨mv,hmv⟩:∃ mv,mv=ms.getD t.thread undef:=⟨_,rfl⟩
 rw [<-hmv] at dm hfin
 obtain⟨p,hpp⟩:∃ p,p=t.thread:=⟨_,rfl⟩
 rw [<-hpp] at d1 dm hpm
 have s0:wb.cell? ⟨u.heap.size,0,none⟩=some (.int .i64 kd):=by rw [aA hS];rfl
 have l1:(p:Int)<(B.I.nM:Int):=by omega
 have l2:¬ (p:Int)<0:=by omega
 have lk:(kd == 4)=false:=by simpa using hk
 have D0:=aT d0;have D1:=aT d1;have D7:=aT d7;have DM:=aT dm
 have HF:=Lib.hid hfin;have Hwb:=Lib.hid hwb
 clear hA hA2 h1 h2 ht hM hms hW hfin hmv hpp hS hC hg hwb d0 d1 d7 dm hinv hgot htk hml hnM hmn hp hok
 suffices main:Calls Tryz.prog 44 #[.pointer (some ⟨B.I.tb,B.I.pre.length,none⟩),.int .i64 (n:Int),.int .i64 0,QR kd P Q,QG c] u λe u'=>e=.returned mv/\wQ B u' t r mv (r.marks.getD t.thread []) by
  refine Calls.mono main ?_
  rintro e u' ⟨h1,h2⟩
  exact⟨mv,t,h1,h2,rfl,rfl,rfl,rfl⟩
 unfold QR QG
 rw [hob]
 clear hob
 go_enter Tryz.func44,Tryz.ntmps44
 go_upto_region 1 with fail
 rw [<-Hwb.out]
 go_upto_region 3 with fail
 ((with_reducible refine bN (by kernel_rfl) (by kernel_rfl) ?_);(repeat ((with_reducible refine wpQuiet_step (λK hK=>?_));go_simp;((with_reducible refine hK _ ?_);clear hK K)));(with_reducible refine wpQuiet_nil ?_);intro _ hw';obtain⟨nq,hw''⟩:=hw';subst hw'')
 have hb:=nq.below
 have HG:=Lib.hid (HF.out.grown hb)
 clear hb
 go_wp2
 go_ret
 exact⟨rfl,HG.out⟩
end
section
open Go.RowKit
variable {B:fD} {w w':World} {t:aJ} {r:RWD}
end
section
open Go.RowKit
structure SH where
 come:List Nat
 last:Nat
 now:Nat
inductive PiS where
 | wr (v q i ph:Nat)
 | rd (q k:Nat) (l:List Nat) (key:List Int)
def RH (q:Nat):Nat:=1+q
def yU (n w q i:Nat):Nat:=n+2+q*w+i
def Lb (now q:Nat):Nat:=if q=now then q+1 else q
def YR (q now:Nat):Nat:=((q+18446744073709551616 - now) % 18446744073709551616)*4294967296 % 18446744073709551616
def Ry (o:SH) (c:Nat):List Nat:=o.come.set o.now ((o.come.getD o.now 0+(c+18446744073709551616 - o.last) % 18446744073709551616) % 18446744073709551616)
def Iu (wd:WD) (a d:Nat):WD:={ wd with mem:=(yA wd.mem (a:Int) d).1 }
def Il (wd:WD) (a d:Nat):Nat:=(yA wd.mem (a:Int) d).2
def Od (n w:Nat):Sys where
 σ:=PiS
 ω:=SH
 start:=λo _ p c=>if c.kind=1 then .run (.rd 0 0 [] []) else if c.kind≠0 then .refuse 9 else if p≠0 then .refuse 11 else .run (.wr c.a (Lb o.now 0) 0 0)
 step:=λo wd _ s=>match s with
  | .wr v q i 0=>if dZ wd (RH q)=o.come.getD q 0 then (o,eY wd (RH q),.wr v q i 1,false) else (o,eY wd (RH q),.wr v (Lb o.now (q+1)) i 0,false)
  | .wr v q i 1=>(o,eB wd (yU n w q i) ((v+i) % 18446744073709551616),.wr v q (i+1) (if i+1=w then 2 else 1),false)
  | .wr v q i (k+2)=>(⟨Ry o (Il wd 0 (YR q o.now) % 4294967296),Il wd 0 (YR q o.now) % 4294967296,q⟩,Iu wd 0 (YR q o.now),.wr v q i (k+2),true)
  | .rd _ 0 l _=>(o,Iu wd 0 1,.rd (Il wd 0 1 / 4294967296) 1 l (jW wd),false)
  | .rd q (k+1) l key=>if k<w then (o,eY wd (yU n w q k),.rd q (k+2) (l++[dZ wd (yU n w q k)]) key,false) else (o,Iu wd (RH q) 1,.rd q (k+2) l key,true)
 answer:=λs=>match s with
  | .wr _ _ _ _=>(⟨0,0,[]⟩,[])
  | .rd _ _ l key=>(⟨0,0,l⟩,key)
 late:=λ_ _ _ _=>none
end
section
open Go.RowKit
structure ScD where
 pc:Nat
 at_:Nat
 rounds:Nat
 old:List Nat
 now:List Nat
 last:Nat
 diff:List Bool
 from_:Nat
 list:List Nat
 moment:Int
inductive SnS where
 | rd (s:ScD) (key:List Int)
 | up (s:ScD) (p record next v:Nat) (scanned:Bool)
def AQ:ScD:=⟨0,0,0,List.replicate 16 0,List.replicate 16 0,0,List.replicate 16 false,0,[],0⟩
def bG (n p t r:Nat):Nat:=n+(t*p+r)*(n+1)
def iA (old now:List Nat):Nat->Nat->List Bool->List Bool×Option Nat
 | 0,_,d=>(d,none)
 | m+1,t,d=>if old.getD t 0=now.getD t 0 then iA old now m (t+1) d
  else if d.getD t false=true then (d,some (now.getD t 0))
  else iA old now m (t+1) (d.set t true)
def dI (n:Nat):Nat->ScD->ScD
 | 0,s=>{ s with pc:=if s.at_=n then 3 else s.pc }
 | m+1,s=>if s.at_<n/\s.now.getD s.at_ 0=0 then dI n m { s with list:=s.list++[0],at_:=s.at_+1 } else { s with pc:=if s.at_=n then 3 else s.pc }
def eH (n:Nat) (wd:WD) (s:ScD):ScD:=
 if s.rounds+1=1 then { s with at_:=0,rounds:=s.rounds+1,old:=s.now,last:=wd.now }
 else if s.old=s.now then dI n n { s with at_:=0,rounds:=s.rounds+1,pc:=1,moment:=s.last }
 else match iA s.old s.now n 0 s.diff with
  | (d,some f)=>{ s with at_:=0,rounds:=s.rounds+1,diff:=d,pc:=2,from_:=f,moment:=(wd.traces f).headD 0 }
  | (d,none)=>{ s with at_:=0,rounds:=s.rounds+1,diff:=d,old:=s.now,last:=wd.now }
def bK (s:ScD):Nat:=if s.pc=0 then s.at_ else if s.pc=1 then s.now.getD s.at_ 0 else s.from_+1+s.at_
def jJ (n:Nat) (wd:WD) (g:Nat) (s:ScD):ScD:=
 if s.pc=0 then (if s.at_+1=n then eH n wd { s with now:=s.now.set s.at_ g,at_:=s.at_+1 } else { s with now:=s.now.set s.at_ g,at_:=s.at_+1 })
 else if s.pc=1 then dI n n { s with list:=s.list++[g],at_:=s.at_+1 }
 else { s with list:=s.list++[g],at_:=s.at_+1,pc:=if s.at_+1=n then 3 else s.pc }
def vQ (wd:WD) (s:ScD):WD:=eY wd (bK s)
def bE (n:Nat) (wd:WD) (s:ScD):ScD:=jJ n wd (dZ wd (bK s)) s
def vU (wd:WD) (r:Nat) (m:Int):WD:={ wd with traces:=BF wd.traces (r:Int) [m] }
def aV (n k:Nat):Sys where
 σ:=SnS
 ω:=List Nat
 start:=λo _ p c=>if c.kind=1 then .run (.rd AQ []) else if c.kind≠0 then .refuse 9 else if k<=o.getD p 0 then .refuse 6 else .run (.up AQ p (bG n k p (o.getD p 0)) 0 c.a false)
 step:=λo wd _ s=>match s with
  | .rd s key=>(o,vQ wd s,.rd (bE n wd s) (if (bE n wd s).pc=3 then [2*(bE n wd s).moment,2*(wd.now:Int)] else key),decide ((bE n wd s).pc=3))
  | .up s p r nx v false=>(o,vQ wd s,.up (bE n wd s) p r nx v (decide ((bE n wd s).pc=3)),false)
  | .up s p r 0 v true=>(o,eB wd r v,.up s p r 1 v true,false)
  | .up s p r (i+1) v true=>if i+1<=n then (o,eB wd (r+(i+1)) (s.list.getD i 0),.up s p r (i+2) v true,false)
   else (o.set p (o.getD p 0+1),eB (vU wd r s.moment) p r,.up s p r (i+2) v true,true)
 answer:=λs=>match s with
  | .rd s key=>(⟨0,0,s.list⟩,key)
  | .up _ _ _ _ _ _=>(⟨0,0,[]⟩,[])
 late:=λ_ _ _ _=>none
end
section
open Go.RowKit
def aAj (q:Nat):Option PiS->Bool
  | some (.rd q' j _ _)=>decide (q'=q) && decide (1<=j)
  | _=>false
def Zi (now q:Nat):Option PiS->Bool
  | some (.rd q' j _ _)=>decide (q<=q') && decide (q'≠now) && decide (1<=j)
  | _=>false
def piH (q:Nat) (hs:List (Option PiS×Nat)):Nat:=hs.countP (λh=>aAj q h.1)
def piN (now q:Nat) (hs:List (Option PiS×Nat)):Nat:=hs.countP (λh=>Zi now q h.1)
structure PiW (n k t:Nat) (ws:List Nat) (o:SH) (hs:List (Option PiS×Nat)):Prop where
  wl:ws.length=1+(n+1)*(k+1)
  cl:o.come.length=n+1
  nl:o.now<=n
  cell:∃ c,ws.getD 0 0=o.now*4294967296+c/\c<=t/\o.last<=c/\∀ q,q<=n->o.come.getD q 0+(if q=o.now then c - o.last else 0)=ws.getD (1+q) 0+piH q hs
  cm:∀ q,q<=n->o.come.getD q 0<=o.last
def Rt (n k:Nat) (calls:List aD) (ws:List Nat) (o:SH) (hs:List (Option PiS×Nat)) (p:Nat) (e:EvD):PiS->Prop
  | .wr v q i ph=>p=0/\kindOf calls e=0/\v=(calls.getD e.call d0).a/\q≠o.now/\
      ((ph=0/\i=0/\e.steps+(if o.now<q then 1 else 0)=q/\piN o.now q hs+e.steps+1<=n)∨
       (1<=ph/\ph<=2/\q<=n/\piH q hs=0/\e.steps<=n+i/\i<=k/\(ph=1->i<k)/\(ph=2->i=k)/\∀ a,a<i->ws.getD (yU n k q a) 0=(v+a) % 18446744073709551616))
  | .rd q j l _=>kindOf calls e=1/\j<=k+1/\e.steps=j/\(j=0->l=[])/\(1<=j->q<=n/\l.length=j - 1/\∀ a,a<j - 1->l.getD a 0=ws.getD (yU n k q a) 0)
def Ju (k:Nat) (calls:List aD) (f:Nat->Nat):Prop:=
  (∀ a,a<k->f a=0)∨∃ c,c<calls.length/\(calls.getD c d0).thread=0/\(calls.getD c d0).obj=0/\(calls.getD c d0).kind=0/\∀ a,a<k->f a=((calls.getD c d0).a+a) % 18446744073709551616
def Qy (n k:Nat) (calls:List aD) (e:EvD):Prop:=
  e.steps<=n+k+1/\(kindOf calls e=1->e.steps<=k+2)/\(iG calls e=0->kindOf calls e=1->e.ans.list.length=k/\Ju k calls (λa=>e.ans.list.getD a 0))
structure aAP (n k:Nat) (calls:List aD) (st:aP (Od n k)):Prop where
  w:PiW n k st.wd.now st.wd.mem.ws st.obj st.hands
  hand:∀ p s j,st.hands.getD p (none,0)=(some s,j)->iG calls (aF st.evs j)=0/\Rt n k calls st.wd.mem.ws st.obj st.hands p (aF st.evs j) s
  cont:∀ q,q<=n->(∀ v i ph j,st.hands.getD 0 (none,0)=(some (.wr v q i ph),j)->ph=0)->Ju k calls (λa=>st.wd.mem.ws.getD (yU n k q a) 0)
  done:∀ j,j<st.evs.length->(aF st.evs j).resp≠0->Qy n k calls (aF st.evs j)
end
end Go.Proofs.YtfkokppncipgnaaGreat
