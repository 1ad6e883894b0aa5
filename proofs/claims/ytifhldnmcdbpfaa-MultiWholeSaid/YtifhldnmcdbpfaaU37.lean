/- Operations done one by one: the walk of roundelayplain.Wrong, of one object, whatever its kind. -/
import Derived.Test.YtifhldnmcdbpfaaU36
import Derived.Test.YtifhldnmcdbpfaaU16
set_option maxRecDepth 100000
set_option linter.unusedVariables false
set_option linter.unusedSimpArgs false
set_option linter.unnecessarySimpa false
namespace Go.Proofs.Ytifhldnmcdbpfaa
open Go.RowKit
def jY (kd P Q:Int):Value:=.agg #[.int .i64 kd,.int .i64 P,.int .i64 Q]
def xW (w w':World) (a:Option Addr) (l:List Nat):Prop:=aW w' a l.length 1 (dY l)/\∀ b off,a=some ⟨b,off,none⟩->w.heap.size<=b/\b<w'.heap.size
def sO (ap:List Nat->aF->List Nat×lU) (st:List Nat) (c:aF) (u:World) (e:Ending) (u':World):Prop:=
 ∃ a' c' la lc,e=.returned (.tuple #[.slice a' (ap st c).1.length c',gF (ap st c).2.err (ap st c).2.val (.slice la (ap st c).2.list.length lc)])/\xW u u' a' (ap st c).1/\aW u' la (ap st c).2.list.length 1 (dY (ap st c).2.list)/\Below u.heap.size u u'
structure xQ (kd P Q:Int) (n:Nat) (ap:List Nat->aF->List Nat×lU) (s0:List Nat) (inv:List Nat->Prop):Prop where
 size:∀ u,Calls Try.prog 47 #[.int .i64 (n:Int),jY kd P Q] u λe u'=>∃ z:Int,e=.returned (.int .i64 z)/\0<=z/\Below u.heap.size u u'
 new:∀ u,Calls Try.prog 48 #[.int .i64 (n:Int),jY kd P Q] u λe u'=>∃ a c,e=.returned (.slice a s0.length c)/\xW u u' a s0/\Below u.heap.size u u'
 apply:∀ u a c st x,aW u a st.length 1 (dY st)->inv st->iJ x->Calls Try.prog 51 #[.int .i64 (n:Int),jY kd P Q,.slice a st.length c,fG x] u (sO ap st x u)
 inv0:inv s0
 invS:∀ st x,inv st->iJ x->inv (ap st x).1
 queue:kd≠8
set_option maxHeartbeats 4000000 in
theorem LD {kd P Q:Int} {n:Nat} {ap:List Nat->aF->List Nat×lU} {s0:List Nat} {inv:List Nat->Prop} (K:xQ kd P Q n ap s0 inv) (u:World) (a:Option Addr) (c:Nat) (st:List Nat) (x:aF) (la:Option Addr) (lc:Nat)
  (hs:aW u a st.length 1 (dY st)) (hi:inv st) (hx:iJ x) (hl:aW u la (ap st x).2.list.length 1 (dY (ap st x).2.list)) :
  Calls Try.prog 52 #[.int .i64 (n:Int),jY kd P Q,.slice a st.length c,fG x,gF (ap st x).2.err (ap st x).2.val (.slice la (ap st x).2.list.length lc)] u λe u'=>
   ∃ a' c',e=.returned (.tuple #[.slice a' (ap st x).1.length c',.bool true])/\xW u u' a' (ap st x).1/\Below u.heap.size u u':=by
 obtain⟨th,ob,kd',ca,cb,cc⟩:=x
 obtain⟨ar,har⟩:∃ ar,ar=ap st ⟨th,ob,kd',ca,cb,cc⟩:=⟨_,rfl⟩
 rw [<-har] at hl ⊢
 obtain⟨st',er,vl,li⟩:=ar
 simp only at hl ⊢
 have q0:(kd == 8)=false:=by simpa using K.queue
 have q1:¬ kd=8:=K.queue
 obtain⟨ln,hln⟩:∃ ln,ln=li.length:=⟨_,rfl⟩
 obtain⟨wa,hwa⟩:∃ wa,wa=((u.alloc (.cells #[.int .i64 kd,.int .i64 P,.int .i64 Q] 51)).alloc (.cells #[.int .i64 th,.int .i64 ob,.int .i64 kd',.int .u64 (ca:Int),.int .u64 (cb:Int),.int .u64 (cc:Int)] 46)).alloc (.cells #[.int .i64 er,.int .u64 (vl:Int),.slice la li.length lc] 42):=⟨_,rfl⟩
 have hga:Below u.heap.size u wa:=by rw [hwa];exact iG u [_,_,_]
 have r0:wa.heap[u.heap.size]?=some (.cells #[.int .i64 kd,.int .i64 P,.int .i64 Q] 51 (0,0)):=by rw [hwa];exact dE [_,_,_] u 0 _ rfl
 have r1:wa.heap[u.heap.size+1]?=some (.cells #[.int .i64 th,.int .i64 ob,.int .i64 kd',.int .u64 (ca:Int),.int .u64 (cb:Int),.int .u64 (cc:Int)] 46 (0,0)):=by rw [hwa];exact dE [_,_,_] u 1 _ rfl
 have r2:wa.heap[u.heap.size+2]?=some (.cells #[.int .i64 er,.int .u64 (vl:Int),.slice la li.length lc] 42 (0,0)):=by rw [hwa];exact dE [_,_,_] u 2 _ rfl
 have A:=K.apply wa a c st ⟨th,ob,kd',ca,cb,cc⟩ (hs.grown hga) hi hx
 unfold sO at A
 rw [<-har] at A
 unfold jY fG gF at A ⊢
 simp only at A ⊢
 rw [<-hln] at A r2 hwa ⊢
 have HA:=Lib.hid A;have Hwa:=Lib.hid hwa;have Hga:=Lib.hid hga;have R0:=Lib.hid r0;have R1:=Lib.hid r1;have R2:=Lib.hid r2;have Hl:=Lib.hid hl;have Hln:=Lib.hid hln;have HK:=Lib.hid K
 clear A hwa hga r0 r1 r2 hl hs hi hx har hln K
 go_enter Try.func52,Try.ntmps52
 go_wp2_with fail
 rw [<-Hwa.out]
 refine HA.out.mono ?_
 rintro e w1 ⟨a',c',la',lc',rfl,hn1,hsl,hb1⟩
 have s0:=(hb1.block _ (aH R0.out)).trans R0.out
 have s1:=(hb1.block _ (aH R1.out)).trans R1.out
 have s2:=(hb1.block _ (aH R2.out)).trans R2.out
 have x0:w1.cell? ⟨u.heap.size,0,none⟩=some (.int .i64 kd):=by rw [aA s0];rfl
 have y0:w1.cell? ⟨u.heap.size+1+1,0,none⟩=some (.int .i64 er):=by rw [aA s2];rfl
 have y1:w1.cell? ⟨u.heap.size+1+1,1,none⟩=some (.int .u64 (vl:Int)):=by rw [aA s2];rfl
 have y2:w1.cell? ⟨u.heap.size+1+1,2,none⟩=some (.slice la ln lc):=by rw [aA s2];rfl
 have hl1:aW w1 la li.length 1 (dY li):=(Hl.out.grown Hga.out).grown hb1
 rw [Hln.out] at hsl
 have S:=Lib.hid (λ(v:World) (h:Below w1.heap.size w1 v)=>same_eq li la la' lc lc' v (hl1.grown h) (hsl.grown h))
 rw [<-Hln.out] at S
 have hs0:=aH s0
 have hs2:u.heap.size+1+1<w1.heap.size:=aH s2
 have Hb1:=Lib.hid hb1;have Hn1:=Lib.hid hn1
 clear hb1 hn1 hsl hl1 s0 s1 s2
 go_wp2_with (go_at_call 30;refine(S.out _ (Gr.new _ _)).mono ?_;rintro e w2 ⟨rfl,hb2⟩)
 go_ret2
 refine⟨a',c',rfl,⟨(Hn1.out.1.grown (Gr.new _ _)).grown hb2,λb off e=>⟨Nat.le_trans Hga.out.size (Hn1.out.2 b off e).1,by have h1:=(Hn1.out.2 b off e).2;have h2:=hb2.size;simp only [World.size_alloc] at h2;omega⟩⟩,Gr.trans Hga.out (Gr.trans Hb1.out (Gr.trans (Gr.new _ _) hb2))⟩
theorem IY:(Try.prog.info? 28).map (λi=>(i.zero,i.size,i.bytes))=some (some (.slice none 0 0),1,24):=by kernel_rfl
def qG (u:World) (B q cp:Nat) (st:List Nat) (a:Option Addr) (c:Nat):Prop:=
 u.ownsRow B 28 1 (.slice (some ⟨q,0,none⟩) 1 cp) 1 [.slice a st.length c]/\aW u a st.length 1 (dY st)/\∀ b off,a=some ⟨b,off,none⟩->b≠q
theorem qG.grown {u u':World} {B q cp:Nat} {st:List Nat} {a:Option Addr} {c:Nat} (h:qG u B q cp st a c) (hb:Below u.heap.size u u'):qG u' B q cp st a c:=⟨gK h.1 hb,h.2.1.grown hb,h.2.2⟩
theorem qG.cell {u:World} {B q cp:Nat} {st:List Nat} {a:Option Addr} {c:Nat} (h:qG u B q cp st a c):u.cell? ⟨q,0,none⟩=some (.slice a st.length c)/\u.frozen? ⟨q,0,none⟩=false:=lX h.1 rfl
theorem qG.put {u:World} {B q cp:Nat} {st st':List Nat} {a a':Option Addr} {c c':Nat} (h:qG u B q cp st a c) (hs:aW u a' st'.length 1 (dY st')) (hn:∀ b off,a'=some ⟨b,off,none⟩->b≠q):qG (u.setCell ⟨q,0,none⟩ (.slice a' st'.length c')) B q cp st' a' c':=
 ⟨pI h.1 0 _,hs.chg ((Chg.refl (λb=>b=q) u).setCell (p:=⟨q,0,none⟩) (.inl rfl) _) hn,hn⟩
theorem qG.lt {u:World} {B q cp:Nat} {st:List Nat} {a:Option Addr} {c:Nat} (h:qG u B q cp st a c):B<=q/\q<u.heap.size:=h.1.lt q rfl
set_option maxHeartbeats 16000000 in
theorem KQ {X Y:Nat->Prop} {B:Nat} {kd P Q:Int} {n:Nat} {ap:List Nat->aF->List Nat×lU} {s0:List Nat} {inv:List Nat->Prop} (K:xQ kd P Q n ap s0 inv) (w:World) (calls:List aF) (ca ea va:Option Addr) (cc en ec vn vc bs os sc:Nat) (ers:List (Value×Value)) (rp:gT)
  (hq0:w.cell? ⟨bs,os,none⟩=some (.int .i64 kd)) (hq1:w.cell? ⟨bs,os+1,none⟩=some (.int .i64 P)) (hq2:w.cell? ⟨bs,os+2,none⟩=some (.int .i64 Q))
  (hrep:fB X B w (.slice ea en ec) (.slice va vn vc) ers rp) (hen:en=rp.evs.length) (hlen:rp.evs.length<1000000) (hc:iX Y w ca calls) (hg:nK ap s0 calls n rp) :
  Calls Try.prog 34 #[.int .i64 (n:Int),.slice (some ⟨bs,os,none⟩) 1 sc,.slice ca calls.length cc,.slice ea en ec] w λe w'=>e=.returned (.int .i64 (-1))/\Below w.heap.size w w':=by
 have hn1:=hg.rows.n1;have hn16:=hg.rows.n16
 have i1:¬ (n:Int)<1:=by omega
 have i2:¬ (16:Int)<(n:Int):=by omega
 have henl:en<1000000:=by omega
 have hcm:=hc.sl.1
 unfold maxLen at hcm
 have KS:=Lib.hid K.size;have KN:=Lib.hid K.new;have HK:=Lib.hid K
 have Hrep:=Lib.hid hrep;have Hen:=Lib.hid hen;have Hg:=Lib.hid hg;have Hc:=Lib.hid hc
 have Q0:=Lib.hid hq0;have Q1:=Lib.hid hq1;have Q2:=Lib.hid hq2
 clear K hrep hen hg hc hlen hq0 hq1 hq2 hn1 hn16
 go_enter Try.func34,Try.ntmps34
 go_wp2
 go_loopw [23] (λi wr=>∃ k:Nat,k<=1/\i=.int .i64 k/\Below w.heap.size w wr) (λi _=>1 - (intOf i).toNat)
 case atStart=>exact⟨0,Nat.zero_le _,rfl,Gr.refl _⟩
 case round=>
  obtain⟨k,hk,rfl,hb⟩:=hrel
  obtain⟨wo,rfl⟩:∃ wo,wo=wr:=⟨_,rfl⟩
  have q0:=(hb.cell (World.block_lt_of_cell? _ _ Q0.out)).trans Q0.out
  have q1:=(hb.cell (World.block_lt_of_cell? _ _ Q1.out)).trans Q1.out
  have q2:=(hb.cell (World.block_lt_of_cell? _ _ Q2.out)).trans Q2.out
  have Hb:=Lib.hid hb
  clear hb
  rcases(by omega:k=0∨k=1) with rfl|rfl
  ·unfold jY at KS
   go_wp2_with fail
   refine(KS.out _).mono ?_
   rintro e w1 ⟨z,rfl,hz,hb1⟩
   have hz1:¬ z<0:=by omega
   have Hb1:=Lib.hid hb1
   clear hb1 q0 q1 q2
   go_wp2
   go_roundw
   case rel=>exact⟨1,Nat.le_refl _,rfl,Gr.trans Hb.out Hb1.out⟩
   case measure=>simp [intOf]<;>omega
  ·clear q0 q1 q2
   go_wp2
   go_loopw [44] (λi wr=>∃ k:Nat,k<=en/\i=.int .i64 k/\Below w.heap.size w wr) (λi _=>en - (intOf i).toNat)
   case atStart=>exact⟨0,Nat.zero_le _,rfl,Hb.out⟩
   case round=>
    obtain⟨k,hk,rfl,hb⟩:=hrel
    obtain⟨wi,rfl⟩:∃ wi,wi=wr:=⟨_,rfl⟩
    by_cases hlt:k<en
    ·obtain⟨g,la,lc,ka,kc,rfl,hgl,e0,e1,e2,e3,e4,e5,e6,e7,hls,hks,hknil⟩:=Hrep.out.ev8 Hen.out hlt hb
     have hev:=Hg.out.rows.ev k (by rw [<-Hen.out];exact hlt)
     have hcall:=hev.call
     have hthr:=hev.thr
     have hrk:(aB rp.evs k).resp≠0->(aB rp.evs k).key≠[]:=λh=>(hev.resp h).2.2.2.1
     obtain⟨kn,hkn⟩:∃ kn,kn=(aB rp.evs k).key.length:=⟨_,rfl⟩
     have OT:(aB rp.evs k).resp≠0->¬ (kn:Int)=0:=λh h0=>hrk h (List.eq_nil_of_length_eq_zero (by omega))
     rw [<-hkn] at e7
     obtain⟨rs,hrs⟩:∃ rs,rs=(aB rp.evs k).resp:=⟨_,rfl⟩
     rw [<-hrs] at e2 OT
     obtain⟨cI,hcI⟩:∃ cI,cI=(aB rp.evs k).call:=⟨_,rfl⟩
     rw [<-hcI] at e0 hcall hthr
     obtain⟨b9,off,rfl,y0,y1,y2,y3,y4,y5⟩:=oZ Hc.out.sl hcall (Gr.trans (Gr.refl w) hb)
     obtain⟨th,hth⟩:∃ th,th=(calls.getD cI Proofs.Ytifhldnmcdbpfaa.d0).thread:=⟨_,rfl⟩
     rw [<-hth] at y0 hthr
     have l1:(k:Int)<(en:Int):=by omega
     have l2:(cI:Int)<(calls.length:Int):=by omega
     have l3:¬ (cI:Int)<0:=by omega
     have l4:¬ (calls.length:Int)<=(cI:Int):=by omega
     have l5:¬ th<0:=by omega
     have l6:¬ (n:Int)<=th:=by omega
     have Hb2:=Lib.hid hb
     clear hb e1 e3 e4 e5 e6 hls hks hknil hev hrk hkn hrs hcI hth hthr y1 y2 y3 y4 y5 hcall hgl
     by_cases hr0:rs=0
     ·subst hr0
      clear OT
      go_wp2
      go_roundw
      case rel=>exact⟨k+1,by omega,by go_num,Hb2.out⟩
      case measure=>simp [intOf]<;>omega
     ·have r1:=OT hr0
      have r2:¬ (rs:Int)=0:=by omega
      have r3:((rs:Int) != 0)=true:=by simpa using hr0
      clear OT
      go_wp2
      go_roundw
      case rel=>exact⟨k+1,by omega,by go_num,Hb2.out⟩
      case measure=>simp [intOf]<;>omega
    ·have l1:¬ (k:Int)<(en:Int):=by omega
     have Hb2:=Lib.hid hb
     clear hb Hb
     go_wp2
     go_loopw [11,106] (λsv i wr=>∃ k:Nat,k<=1/\i=.int .i64 k/\Below w.heap.size w wr/\(k=0->sv=.slice none 0 0)/\(k=1->∃ q cp a c,sv=.slice (some ⟨q,0,none⟩) 1 cp/\qG wr w.heap.size q cp s0 a c)) (λ_ i _=>1 - (intOf i).toNat)
     case atStart=>exact⟨0,Nat.zero_le _,rfl,Hb2.out,λ_=>rfl,λh=>by cases h⟩
     case round=>
      obtain⟨k,hk,rfl,hb,RU,QM⟩:=hrel
      obtain⟨wl,rfl⟩:∃ wl,wl=wr:=⟨_,rfl⟩
      have Hb:=Lib.hid hb
      rcases(by omega:k=0∨k=1) with rfl|rfl
      ·obtain rfl:=RU rfl
       have q0:=(hb.cell (World.block_lt_of_cell? _ _ Q0.out)).trans Q0.out
       have q1:=(hb.cell (World.block_lt_of_cell? _ _ Q1.out)).trans Q1.out
       have q2:=(hb.cell (World.block_lt_of_cell? _ _ Q2.out)).trans Q2.out
       clear RU QM hb
       unfold jY at KN
       obtain⟨ZR,hi,hz0,hz1,hz2⟩:=info_parts IY
       go_wp2_with fail
       refine(KN.out _).mono ?_
       rintro e w1 ⟨a,c,rfl,hnew,hb1⟩
       have Hb1:=Lib.hid hb1;have Hnew:=Lib.hid hnew
       clear hb1 q0 q1 q2 hnew
       go_wp2_with (at_builtin;refine wpList_append_own _ rfl _ _ 92 rfl w1.heap.size 28 ZR (.slice none 0 0) 1 24 Try.underlying92 hi hz0 hz1 hz2 rfl (by decide) _ _ _ rfl (World.ownsRow_nil _ _ _ _) ⟨w1.heap.size,0,none⟩ 1 1 [.slice a s0.length c] rfl rfl ?c1 ?c2 ?c3 ?c4 ?c5 ?_)
       case c1=>exact cell_one_new _ _ _
       case c2=>simp [Value.oneCell']
       case c3=>unfold maxLen;omega
       case c4=>omega
       case c5=>simp
       intro o' wa hown' hgrow _
       obtain⟨q,cp,rfl,hqa,hqb,hqc⟩:=sH hown'
       have hca:Chg noB w1 wa:=((Chg.refl _ w1).alloc _).grown hgrow (λq hq=>by cases hq)
       have hb1a:Below w1.heap.size w1 wa:=hca.below (λk h=>h.elim) (Nat.le_refl _)
       have hba:=Gr.trans Hb.out (Gr.trans Hb1.out hb1a)
       have hst:qG wa w.heap.size q cp s0 a c:=⟨MC hown' (Nat.le_trans Hb.out.size Hb1.out.size),Hnew.out.1.grown hb1a,λb off e=>by have:=(Hnew.out.2 b off e).2;omega⟩
       have Hba:=Lib.hid hba;have Hst:=Lib.hid hst
       clear hown' hgrow hqa hqb hqc hca hb1a hba hst
       go_wp2
       go_roundw
       case rel=>exact⟨1,Nat.le_refl _,rfl,Hba.out,(λh=>by cases h),λ_=>⟨q,cp,a,c,rfl,Hst.out⟩⟩
       case measure=>simp [intOf]<;>omega
      ·obtain⟨q,cp,a,c,rfl,hst⟩:=QM rfl
       clear RU QM
       have OR:=Lib.hid (HZ wl ea va en ec vn vc ers rp (Hrep.out.grown hb) Hen.out (by have:=Hen.out;omega))
       have Hst:=Lib.hid hst
       clear hb hst
       go_wp2_with fail
       refine OR.out.mono ?_
       rintro e w3 ⟨oa,oc,rfl,hol,hof,hb3⟩
       have hfold:=Hg.out.fold
       have hmem:∀ x∈dD rp.evs,x<rp.evs.length/\kAt rp.evs x≠[]:=λx hx=>tH hx
       have wT:(dD rp.evs).length<=rp.evs.length:=jS rp.evs rp.evs.length
       obtain⟨L,hL⟩:∃ L,L=dD rp.evs:=⟨_,rfl⟩
       rw [<-hL] at hol hfold hmem wT ⊢
       obtain⟨Ln,hLn⟩:∃ Ln,Ln=L.length:=⟨_,rfl⟩
       rw [<-hLn] at hol wT ⊢
       have hoq:∀ b off,oa=some ⟨b,off,none⟩->b≠q:=λb off e=>by have:=hof b off e;have:=Hst.out.lt.2;omega
       have hLl:Ln<1000000:=by have:=Hen.out;omega
       have Hst3:=Lib.hid (Hst.out.grown hb3)
       have Hb3:=Lib.hid (Gr.trans Hb.out hb3)
       have Hol:=Lib.hid hol;have Hfold:=Lib.hid hfold;have Hmem:=Lib.hid hmem;have Hoq:=Lib.hid hoq;have HLn:=Lib.hid hLn
       clear hol hof hb3 hfold hmem hoq hL hLn wT OR Hst
       go_wp2
       go_loopw [123] (λi wr=>∃(k:Nat) (st:List Nat) (a:Option Addr) (c:Nat),k<=Ln/\i=.int .i64 k/\Below w.heap.size w wr/\aW wr oa Ln 1 (xK L)/\qG wr w.heap.size q cp st a c/\inv st/\Fold ap calls rp.evs st (L.drop k)) (λi _=>Ln - (intOf i).toNat)
       case atStart=>exact⟨0,s0,a,c,Nat.zero_le _,rfl,Hb3.out,Hol.out,Hst3.out,HK.out.inv0,by rw [List.drop_zero];exact Hfold.out⟩
       case round=>
        clear a c Hb3 Hol Hst3 Hfold Hb2 Hb
        obtain⟨k,st,a,c,hk,rfl,hb,hol,hst,hinv,hfo⟩:=hrel
        obtain⟨wi,rfl⟩:∃ wi,wi=wr:=⟨_,rfl⟩
        by_cases hlk:k<Ln
        ·obtain⟨x,hx⟩:∃ x,x=L.getD k 0:=⟨_,rfl⟩
         have hkl:k<L.length:=by rw [<-HLn.out];exact hlk
         have hxe:L[k]=x:=by rw [hx,List.getD_eq_getElem?_getD,List.getElem?_eq_getElem hkl];rfl
         have hdr:L.drop k=x::L.drop (k+1):=by rw [List.drop_eq_getElem_cons hkl,hxe]
         have hxm:=Hmem.out x (by rw [<-hxe];exact List.getElem_mem hkl)
         obtain⟨bo,oo,rfl,hoc⟩:=hol.elem (Gr.refl wi) hlk
         have o0:wi.cell? ⟨bo,oo+k,none⟩=some (.int .i64 (x:Int)):=by have h0:=hoc 0 (by omega);rw [Nat.mul_one,Nat.add_zero] at h0;rw [h0,hx];rfl
         have hxen:x<en:=by rw [Hen.out];exact hxm.1
         obtain⟨g,la,lc,ka,kc,rfl,hgl,e0,e1,e2,e3,e4,e5,e6,e7,hls,hks,hknil⟩:=Hrep.out.ev8 Hen.out hxen hb
         have hcall:=(Hg.out.rows.ev x hxm.1).call
         rw [hdr] at hfo
         obtain⟨E,hE⟩:∃ E,E=aB rp.evs x:=⟨_,rfl⟩
         have AC:if (calls.getD E.call Proofs.Ytifhldnmcdbpfaa.d0).obj≠0 then (E.resp≠0->E.ans=⟨12,0,[]⟩)/\Fold ap calls rp.evs st (L.drop (k+1)) else (E.resp≠0->E.ans=(ap st (calls.getD E.call Proofs.Ytifhldnmcdbpfaa.d0)).2)/\Fold ap calls rp.evs (ap st (calls.getD E.call Proofs.Ytifhldnmcdbpfaa.d0)).1 (L.drop (k+1)):=by
          unfold Fold at hfo;rw [hE];exact hfo
         rw [<-hE] at e0 e1 e2 e3 e4 e5 e6 e7 hcall hls
         obtain⟨cI,iv,rs,sp,⟨er,vl,li⟩,ky⟩:=E
         simp only at e0 e1 e2 e3 e4 e5 e6 e7 hcall hls AC
         obtain⟨ln,hln⟩:∃ ln,ln=li.length:=⟨_,rfl⟩
         obtain⟨kn,hkn⟩:∃ kn,kn=ky.length:=⟨_,rfl⟩
         rw [<-hln] at e6
         rw [<-hkn] at e7
         obtain⟨b9,off,rfl,y0,y1,y2,y3,y4,y5⟩:=oZ Hc.out.sl hcall (Gr.trans (Gr.refl w) hb)
         have IG:=World.block_lt_of_cell? _ _ y0
         have hcok:iJ (calls.getD cI Proofs.Ytifhldnmcdbpfaa.d0):=Hc.out.ok _ (by rw [List.getD_eq_getElem?_getD,List.getElem?_eq_getElem hcall];exact List.getElem_mem hcall)
         obtain⟨C,hC⟩:∃ C,C=calls.getD cI Proofs.Ytifhldnmcdbpfaa.d0:=⟨_,rfl⟩
         rw [<-hC] at y0 y1 y2 y3 y4 y5 hcok AC
         obtain⟨th,ob,kc',xa,xb,xc⟩:=C
         simp only at y0 y1 y2 y3 y4 y5 AC
         have q0:=(hb.cell (World.block_lt_of_cell? _ _ Q0.out)).trans Q0.out
         have q1:=(hb.cell (World.block_lt_of_cell? _ _ Q1.out)).trans Q1.out
         have q2:=(hb.cell (World.block_lt_of_cell? _ _ Q2.out)).trans Q2.out
         obtain⟨w2,hw2⟩:∃ w2,w2=(wi.alloc (.cells #[.int .i64 (cI:Int),.int .i64 (iv:Int),.int .i64 (rs:Int),.int .i64 (sp:Int),.int .i64 er,.int .u64 (vl:Int),.slice la ln lc,.slice ka kn kc] 44)).alloc (.cells #[.int .i64 th,.int .i64 ob,.int .i64 kc',.int .u64 (xa:Int),.int .u64 (xb:Int),.int .u64 (xc:Int)] 46):=⟨_,rfl⟩
         have hb2:Below wi.heap.size wi w2:=by rw [hw2];exact iG wi [_,_]
         have x2:w2.heap[wi.heap.size]?=some (.cells #[.int .i64 (cI:Int),.int .i64 (iv:Int),.int .i64 (rs:Int),.int .i64 (sp:Int),.int .i64 er,.int .u64 (vl:Int),.slice la ln lc,.slice ka kn kc] 44 (0,0)):=by rw [hw2];exact dE [_,_] wi 0 _ rfl
         have c2:w2.heap[wi.heap.size+1]?=some (.cells #[.int .i64 th,.int .i64 ob,.int .i64 kc',.int .u64 (xa:Int),.int .u64 (xb:Int),.int .u64 (xc:Int)] 46 (0,0)):=by rw [hw2];exact dE [_,_] wi 1 _ rfl
         have l1:(k:Int)<(Ln:Int):=by omega
         have l2:(x:Int)<(en:Int):=by omega
         have l3:(cI:Int)<(calls.length:Int):=by omega
         have l4:(0:Int)<=(cI:Int):=by omega
         have Hb:=Lib.hid hb;have Hb2:=Lib.hid hb2;have X2:=Lib.hid x2;have C2:=Lib.hid c2;have Hw2:=Lib.hid hw2
         have Hst2:=Lib.hid (hst.grown hb2);have Hol2:=Lib.hid (hol.grown hb2)
         have Hls2:=Lib.hid (hls.grown hb2);have Hinv:=Lib.hid hinv;have Hcok:=Lib.hid hcok;have Hln:=Lib.hid hln
         have z0:=(hb2.cell (World.block_lt_of_cell? _ _ q0)).trans q0
         have z1:=(hb2.cell (World.block_lt_of_cell? _ _ q1)).trans q1
         have z2:=(hb2.cell (World.block_lt_of_cell? _ _ q2)).trans q2
         have k1:w2.cell? ⟨wi.heap.size+1,1,none⟩=some (.int .i64 ob):=by rw [aA c2];rfl
         have v2:w2.cell? ⟨wi.heap.size,2,none⟩=some (.int .i64 (rs:Int)):=by rw [aA x2];rfl
         clear hfo hdr hxe hx hoc hxm hE hls hks hknil hln hkn hC hcok hb hb2 hol hst hinv x2 c2 hw2 hcall hgl q0 q1 q2
         go_upto_region 27 with fail
         rw [<-Hw2.out]
         clear e0 e1 e2 e3 e4 e5 e6 e7 y0 y1 y2 y3 y4 y5 o0 IG
         by_cases ho:ob=0
         ·subst ho
          rw [if_neg (by simp)] at AC
          obtain⟨hans,rV⟩:=AC
          by_cases hr0:rs=0
          ·have r2:((rs:Int) == 0)=true:=by simpa using hr0
           have hinv':=HK.out.invS st ⟨th,0,kc',xa,xb,xc⟩ Hinv.out Hcok.out
           have AG:=(λ(u:World) (h:Below w2.heap.size w2 u)=>HK.out.apply u a c st ⟨th,0,kc',xa,xb,xc⟩ (Hst2.out.2.1.grown h) Hinv.out Hcok.out)
           unfold sO at AG
           obtain⟨AR,hAR⟩:∃ AR,AR=ap st ⟨th,0,kc',xa,xb,xc⟩:=⟨_,rfl⟩
           rw [<-hAR] at AG hinv' rV
           obtain⟨st',WN,WF,YS⟩:=AR
           simp only at AG hinv' rV
           obtain⟨TI,TM⟩:∃ TI,TI=YS.length:=⟨_,rfl⟩
           rw [<-TM] at AG
           unfold jY fG gF at AG
           simp only at AG
           have HAG:=Lib.hid AG;have Hfo:=Lib.hid rV;have Hinv':=Lib.hid hinv'
           have cq:=Hst2.out.cell.1
           have hst2l:st.length<=maxLen:=Hst2.out.2.1.1
           have k0:w2.cell? ⟨wi.heap.size+1,0,none⟩=some (.int .i64 th):=by rw [aA C2.out];rfl
           have k2:w2.cell? ⟨wi.heap.size+1,2,none⟩=some (.int .i64 kc'):=by rw [aA C2.out];rfl
           have k3:w2.cell? ⟨wi.heap.size+1,3,none⟩=some (.int .u64 (xa:Int)):=by rw [aA C2.out];rfl
           have k4:w2.cell? ⟨wi.heap.size+1,4,none⟩=some (.int .u64 (xb:Int)):=by rw [aA C2.out];rfl
           have k5:w2.cell? ⟨wi.heap.size+1,5,none⟩=some (.int .u64 (xc:Int)):=by rw [aA C2.out];rfl
           have hb1n:=Gr.new w2 (.cells #[.int .i64 0,.int .u64 0,.slice none 0 0] 42)
           have UX:=(hb1n.cell (World.block_lt_of_cell? _ _ z0)).trans z0;have VJ:=(hb1n.cell (World.block_lt_of_cell? _ _ z1)).trans z1;have VA:=(hb1n.cell (World.block_lt_of_cell? _ _ z2)).trans z2
           have UZ:=(hb1n.cell (World.block_lt_of_cell? _ _ k0)).trans k0;have VG:=(hb1n.cell (World.block_lt_of_cell? _ _ k1)).trans k1;have UY:=(hb1n.cell (World.block_lt_of_cell? _ _ k2)).trans k2;have UW:=(hb1n.cell (World.block_lt_of_cell? _ _ k3)).trans k3;have VI:=(hb1n.cell (World.block_lt_of_cell? _ _ k4)).trans k4;have VK:=(hb1n.cell (World.block_lt_of_cell? _ _ k5)).trans k5
           have mcq:=(hb1n.cell (World.block_lt_of_cell? _ _ cq)).trans cq
           have hzn:(w2.alloc (.cells #[.int .i64 0,.int .u64 0,.slice none 0 0] 42)).heap[w2.heap.size]?=some (.cells #[.int .i64 0,.int .u64 0,.slice none 0 0] 42 (0,0)):=heap_alloc_new _ _
           have nbs:¬ bs=w2.heap.size:=by have:=World.block_lt_of_cell? _ _ z0;simp only at this;omega
           have nq:¬ q=w2.heap.size:=by have:=World.block_lt_of_cell? _ _ cq;simp only at this;omega
           have nwi:¬ wi.heap.size+1=w2.heap.size:=by have:=World.block_lt_of_cell? _ _ k0;simp only at this;omega
           clear hans rV AG hinv' hAR hr0 TM
           go_upto_region 31 with fail
           go_region_held3 (λu=>u.cell? ⟨bs,os,none⟩=some (.int .i64 kd)/\u.cell? ⟨bs,os+1,none⟩=some (.int .i64 P)/\u.cell? ⟨bs,os+2,none⟩=some (.int .i64 Q)/\u.cell? ⟨q,0,none⟩=some (.slice a st.length c)/\u.cell? ⟨wi.heap.size+1,0,none⟩=some (.int .i64 th)/\u.cell? ⟨wi.heap.size+1,1,none⟩=some (.int .i64 0)/\u.cell? ⟨wi.heap.size+1,2,none⟩=some (.int .i64 kc')/\u.cell? ⟨wi.heap.size+1,3,none⟩=some (.int .u64 (xa:Int))/\u.cell? ⟨wi.heap.size+1,4,none⟩=some (.int .u64 (xb:Int))/\u.cell? ⟨wi.heap.size+1,5,none⟩=some (.int .u64 (xc:Int)))
            (first|with_reducible exact⟨YN,jz1,XK,jcq,YD,YG,XI,YJ,XT,XV⟩|with_reducible exact⟨hz0,hz1,hz2,hcq,hk0,hk1,hk2,hk3,hk4,hk5⟩|with_reducible exact⟨UX,VJ,VA,mcq,UZ,VG,UY,UW,VI,VK⟩|with_reducible exact⟨GG,FP,GL,gcq,ET,EK,GI,GX,FH,FD⟩|exact⟨z0,z1,z2,cq,k0,k1,k2,k3,k4,k5⟩|exact⟨UX,VJ,VA,mcq,UZ,VG,UY,UW,VI,VK⟩|exact⟨GG,FP,GL,gcq,ET,EK,GI,GX,FH,FD⟩|exact⟨aJ ((((Chg.refl (λk=>k=w2.heap.size) w4).setCell (by exact .inl rfl) _).setCell (by exact .inl rfl) _).setCell (by exact .inl rfl) _) nbs GG,aJ ((((Chg.refl (λk=>k=w2.heap.size) w4).setCell (by exact .inl rfl) _).setCell (by exact .inl rfl) _).setCell (by exact .inl rfl) _) nbs FP,aJ ((((Chg.refl (λk=>k=w2.heap.size) w4).setCell (by exact .inl rfl) _).setCell (by exact .inl rfl) _).setCell (by exact .inl rfl) _) nbs GL,aJ ((((Chg.refl (λk=>k=w2.heap.size) w4).setCell (by exact .inl rfl) _).setCell (by exact .inl rfl) _).setCell (by exact .inl rfl) _) nq gcq,aJ ((((Chg.refl (λk=>k=w2.heap.size) w4).setCell (by exact .inl rfl) _).setCell (by exact .inl rfl) _).setCell (by exact .inl rfl) _) nwi ET,aJ ((((Chg.refl (λk=>k=w2.heap.size) w4).setCell (by exact .inl rfl) _).setCell (by exact .inl rfl) _).setCell (by exact .inl rfl) _) nwi EK,aJ ((((Chg.refl (λk=>k=w2.heap.size) w4).setCell (by exact .inl rfl) _).setCell (by exact .inl rfl) _).setCell (by exact .inl rfl) _) nwi GI,aJ ((((Chg.refl (λk=>k=w2.heap.size) w4).setCell (by exact .inl rfl) _).setCell (by exact .inl rfl) _).setCell (by exact .inl rfl) _) nwi GX,aJ ((((Chg.refl (λk=>k=w2.heap.size) w4).setCell (by exact .inl rfl) _).setCell (by exact .inl rfl) _).setCell (by exact .inl rfl) _) nwi FH,aJ ((((Chg.refl (λk=>k=w2.heap.size) w4).setCell (by exact .inl rfl) _).setCell (by exact .inl rfl) _).setCell (by exact .inl rfl) _) nwi FD⟩)
            ((go_at_call 51;first|(refine(HAG.out _ ?_).mono ?_;(exact(Gr.refl _).drew);rintro e w4 ⟨a',c',SA,RZ,rfl,hn',hsl2,hb4⟩;replace hb4:=qO hb4;have GG:=(hb4.cell (World.block_lt_of_cell? _ _ z0)).trans z0;have FP:=(hb4.cell (World.block_lt_of_cell? _ _ z1)).trans z1;have GL:=(hb4.cell (World.block_lt_of_cell? _ _ z2)).trans z2;have ET:=(hb4.cell (World.block_lt_of_cell? _ _ k0)).trans k0;have EK:=(hb4.cell (World.block_lt_of_cell? _ _ k1)).trans k1;have GI:=(hb4.cell (World.block_lt_of_cell? _ _ k2)).trans k2;have GX:=(hb4.cell (World.block_lt_of_cell? _ _ k3)).trans k3;have FH:=(hb4.cell (World.block_lt_of_cell? _ _ k4)).trans k4;have FD:=(hb4.cell (World.block_lt_of_cell? _ _ k5)).trans k5;have gcq:=(hb4.cell (World.block_lt_of_cell? _ _ cq)).trans cq;have hb5:=Gr.new w4 (.cells #[.int .i64 0,.int .u64 0,.slice none 0 0] 42);have hz0:=(hb5.cell (World.block_lt_of_cell? _ _ GG)).trans GG;have hz1:=(hb5.cell (World.block_lt_of_cell? _ _ FP)).trans FP;have hz2:=(hb5.cell (World.block_lt_of_cell? _ _ GL)).trans GL;have hk0:=(hb5.cell (World.block_lt_of_cell? _ _ ET)).trans ET;have hk1:=(hb5.cell (World.block_lt_of_cell? _ _ EK)).trans EK;have hk2:=(hb5.cell (World.block_lt_of_cell? _ _ GI)).trans GI;have hk3:=(hb5.cell (World.block_lt_of_cell? _ _ GX)).trans GX;have hk4:=(hb5.cell (World.block_lt_of_cell? _ _ FH)).trans FH;have hk5:=(hb5.cell (World.block_lt_of_cell? _ _ FD)).trans FD;have hcq:=(hb5.cell (World.block_lt_of_cell? _ _ gcq)).trans gcq;have hb6:=Gr.new w4 (.cells #[.int .i64 WN,.int .u64 (WF:Int),.slice SA TI RZ] 42);have YN:=(hb6.cell (World.block_lt_of_cell? _ _ GG)).trans GG;have jz1:=(hb6.cell (World.block_lt_of_cell? _ _ FP)).trans FP;have XK:=(hb6.cell (World.block_lt_of_cell? _ _ GL)).trans GL;have YD:=(hb6.cell (World.block_lt_of_cell? _ _ ET)).trans ET;have YG:=(hb6.cell (World.block_lt_of_cell? _ _ EK)).trans EK;have XI:=(hb6.cell (World.block_lt_of_cell? _ _ GI)).trans GI;have YJ:=(hb6.cell (World.block_lt_of_cell? _ _ GX)).trans GX;have XT:=(hb6.cell (World.block_lt_of_cell? _ _ FH)).trans FH;have XV:=(hb6.cell (World.block_lt_of_cell? _ _ FD)).trans FD;have jcq:=(hb6.cell (World.block_lt_of_cell? _ _ gcq)).trans gcq)|(refine(HAG.out _ ?_).mono ?_;(exact(Gr.new _ _).drew);rintro e w4 ⟨a',c',SA,RZ,rfl,hn',hsl2,hb4⟩;replace hb4:=qO hb4;have QS:=(hb4.block _ (aH hzn)).trans hzn;have y0:w4.cell? ⟨w2.heap.size,0,none⟩=some (.int .i64 0):=(by rw [aA QS];rfl);have y1:w4.cell? ⟨w2.heap.size,1,none⟩=some (.int .u64 0):=(by rw [aA QS];rfl);have y2:w4.cell? ⟨w2.heap.size,2,none⟩=some (.slice none 0 0):=(by rw [aA QS];rfl);have YZ:=aC QS 0;have ZN:=aC QS 1;have ZW:=aC QS 2;replace hb4:=Gr.trans (Gr.new w2 _) hb4;have GG:=(hb4.cell (World.block_lt_of_cell? _ _ z0)).trans z0;have FP:=(hb4.cell (World.block_lt_of_cell? _ _ z1)).trans z1;have GL:=(hb4.cell (World.block_lt_of_cell? _ _ z2)).trans z2;have ET:=(hb4.cell (World.block_lt_of_cell? _ _ k0)).trans k0;have EK:=(hb4.cell (World.block_lt_of_cell? _ _ k1)).trans k1;have GI:=(hb4.cell (World.block_lt_of_cell? _ _ k2)).trans k2;have GX:=(hb4.cell (World.block_lt_of_cell? _ _ k3)).trans k3;have FH:=(hb4.cell (World.block_lt_of_cell? _ _ k4)).trans k4;have FD:=(hb4.cell (World.block_lt_of_cell? _ _ k5)).trans k5;have gcq:=(hb4.cell (World.block_lt_of_cell? _ _ cq)).trans cq)))
           ·obtain⟨w5,vC⟩:∃ w5,w5=w4.alloc (.cells #[.int .i64 WN,.int .u64 (WF:Int),.slice SA TI RZ] 42):=⟨_,rfl⟩
            have nT:Below w2.heap.size w2 w5:=by rw [vC];exact Gr.alloc hb4 _
            have hnS:aW w5 a' st'.length 1 (dY st'):=by rw [vC];exact hn'.1.grown (Gr.new _ _)
            have LZ:∀ b off,a'=some ⟨b,off,none⟩->w2.heap.size<=b:=λb off e=>(hn'.2 b off e).1
            rw [<-vC]
            have hqlt:=Hst2.out.lt
            have vN:=Hst2.out.grown nT
            have KT:=vN.put (c':=c') hnS (λb off e=>by have h1:=LZ b off e;omega)
            have jZ:Chg (λb=>b=q) w5 (w5.setCell ⟨q,0,none⟩ (.slice a' st'.length c')):=(Chg.refl (λb=>b=q) w5).setCell (p:=⟨q,0,none⟩) (.inl rfl) _
            have wT:=(Hol2.out.grown nT).chg jZ (λb off e=>Hoq.out b off e)
            have hb6f:Below w.heap.size w (w5.setCell ⟨q,0,none⟩ (.slice a' st'.length c')):=(Gr.trans Hb.out (Gr.trans Hb2.out nT)).trans (jZ.below (λb h=>by omega) (Gr.trans Hb.out (Gr.trans Hb2.out nT)).size)
            obtain⟨XG,YF⟩:=vN.cell
            have YM:=(nT.cell (World.block_lt_of_cell? _ _ k1)).trans k1
            have Hst5:=Lib.hid KT;have Hol5:=Lib.hid wT;have Hb5:=Lib.hid hb6f
            clear hqlt vN KT jZ wT hb6f nT hnS LZ vC GG FP GL gcq ET EK GI GX FH FD z0 z1 z2 cq k0 k1 k2 k3 k4 k5 v2 hb4 hn' hsl2 UX VJ VA mcq UZ VG UY UW VI VK hb1n hzn nbs nq nwi hz0 hz1 hz2 hcq hk0 hk1 hk2 hk3 hk4 hk5 YN jz1 XK jcq YD YG XI YJ XT XV hb5 hb6
            go_wp2
            go_roundw
            case rel=>exact⟨k+1,st',a',c',by omega,by go_num,Hb5.out,Hol5.out,Hst5.out,Hinv'.out,Hfo.out⟩
            case measure=>simp [intOf]<;>omega
           ·obtain⟨w5,vC⟩:∃ w5,w5=((w4.setCell ⟨w2.heap.size,0,none⟩ (.int .i64 WN)).setCell ⟨w2.heap.size,1,none⟩ (.int .u64 (WF:Int))).setCell ⟨w2.heap.size,2,none⟩ (.slice SA TI RZ):=⟨_,rfl⟩
            have SQ:Chg (λk=>k=w2.heap.size) w4 w5:=by rw [vC];exact(((Chg.refl (λk=>k=w2.heap.size) w4).setCell (by exact .inl rfl) _).setCell (by exact .inl rfl) _).setCell (by exact .inl rfl) _
            have QL:∀ b off,a'=some ⟨b,off,none⟩->w2.heap.size+1<=b:=λb off e=>by have h1:=(hn'.2 b off e).1;have h2:(w2.alloc (.cells #[.int .i64 0,.int .u64 0,.slice none 0 0] 42)).heap.size<=b:=h1;rw [World.size_alloc] at h2;exact h2
            have nT:Below w2.heap.size w2 w5:=hb4.trans (SQ.below (λb h=>by omega) hb4.size)
            have hnS:aW w5 a' st'.length 1 (dY st'):=hn'.1.chg SQ (λb off e=>by have h1:=QL b off e;omega)
            have LZ:∀ b off,a'=some ⟨b,off,none⟩->w2.heap.size<=b:=λb off e=>by have h1:=QL b off e;omega
            rw [<-vC]
            have hqlt:=Hst2.out.lt
            have vN:=Hst2.out.grown nT
            have KT:=vN.put (c':=c') hnS (λb off e=>by have h1:=LZ b off e;omega)
            have jZ:Chg (λb=>b=q) w5 (w5.setCell ⟨q,0,none⟩ (.slice a' st'.length c')):=(Chg.refl (λb=>b=q) w5).setCell (p:=⟨q,0,none⟩) (.inl rfl) _
            have wT:=(Hol2.out.grown nT).chg jZ (λb off e=>Hoq.out b off e)
            have hb6f:Below w.heap.size w (w5.setCell ⟨q,0,none⟩ (.slice a' st'.length c')):=(Gr.trans Hb.out (Gr.trans Hb2.out nT)).trans (jZ.below (λb h=>by omega) (Gr.trans Hb.out (Gr.trans Hb2.out nT)).size)
            obtain⟨XG,YF⟩:=vN.cell
            have YM:=(nT.cell (World.block_lt_of_cell? _ _ k1)).trans k1
            have Hst5:=Lib.hid KT;have Hol5:=Lib.hid wT;have Hb5:=Lib.hid hb6f
            clear hqlt vN KT jZ wT hb6f nT hnS LZ vC GG FP GL gcq ET EK GI GX FH FD z0 z1 z2 cq k0 k1 k2 k3 k4 k5 v2 hb4 hn' hsl2 UX VJ VA mcq UZ VG UY UW VI VK hb1n hzn nbs nq nwi SQ QL QS y0 y1 y2 YZ ZN ZW
            go_wp2
            go_roundw
            case rel=>exact⟨k+1,st',a',c',by omega,by go_num,Hb5.out,Hol5.out,Hst5.out,Hinv'.out,Hfo.out⟩
            case measure=>simp [intOf]<;>omega
          ·have r2:¬ (rs:Int)=0:=by omega
           have r3:((rs:Int) != 0)=true:=by simpa using hr0
           have r4:((rs:Int) == 0)=false:=by simpa using hr0
           have zG:=hans (by omega)
           have hl2:aW w2 la (ap st ⟨th,0,kc',xa,xb,xc⟩).2.list.length 1 (dY (ap st ⟨th,0,kc',xa,xb,xc⟩).2.list):=by rw [<-zG];exact Hls2.out
           have LG:=(λ(u:World) (h:Below w2.heap.size w2 u)=>LD HK.out u a c st ⟨th,0,kc',xa,xb,xc⟩ la lc (Hst2.out.2.1.grown h) Hinv.out Hcok.out (hl2.grown h))
           have hinv':=HK.out.invS st ⟨th,0,kc',xa,xb,xc⟩ Hinv.out Hcok.out
           obtain⟨st',hst'⟩:∃ st',st'=(ap st ⟨th,0,kc',xa,xb,xc⟩).1:=⟨_,rfl⟩
           rw [<-zG,<-hst'] at LG
           rw [<-hst'] at rV hinv'
           simp only at LG
           rw [<-Hln.out] at LG
           unfold jY fG gF at LG
           simp only at LG
           have HLG:=Lib.hid LG;have Hfo:=Lib.hid rV;have Hinv':=Lib.hid hinv'
           have cq:=Hst2.out.cell.1
           have hst2l:st.length<=maxLen:=Hst2.out.2.1.1
           have v4:w2.cell? ⟨wi.heap.size,4,none⟩=some (.int .i64 er):=by rw [aA X2.out];rfl
           have v5:w2.cell? ⟨wi.heap.size,5,none⟩=some (.int .u64 (vl:Int)):=by rw [aA X2.out];rfl
           have v6:w2.cell? ⟨wi.heap.size,6,none⟩=some (.slice la ln lc):=by rw [aA X2.out];rfl
           have k0:w2.cell? ⟨wi.heap.size+1,0,none⟩=some (.int .i64 th):=by rw [aA C2.out];rfl
           have k2:w2.cell? ⟨wi.heap.size+1,2,none⟩=some (.int .i64 kc'):=by rw [aA C2.out];rfl
           have k3:w2.cell? ⟨wi.heap.size+1,3,none⟩=some (.int .u64 (xa:Int)):=by rw [aA C2.out];rfl
           have k4:w2.cell? ⟨wi.heap.size+1,4,none⟩=some (.int .u64 (xb:Int)):=by rw [aA C2.out];rfl
           have k5:w2.cell? ⟨wi.heap.size+1,5,none⟩=some (.int .u64 (xc:Int)):=by rw [aA C2.out];rfl
           clear hans rV zG hl2 LG hinv' hst'
           go_upto_region 33 with fail
           go_region_held3 (λu=>u.cell? ⟨bs,os,none⟩=some (.int .i64 kd)/\u.cell? ⟨bs,os+1,none⟩=some (.int .i64 P)/\u.cell? ⟨bs,os+2,none⟩=some (.int .i64 Q)/\u.cell? ⟨q,0,none⟩=some (.slice a st.length c)/\u.cell? ⟨wi.heap.size,4,none⟩=some (.int .i64 er)/\u.cell? ⟨wi.heap.size,5,none⟩=some (.int .u64 (vl:Int))/\u.cell? ⟨wi.heap.size,6,none⟩=some (.slice la ln lc)/\u.cell? ⟨wi.heap.size+1,0,none⟩=some (.int .i64 th)/\u.cell? ⟨wi.heap.size+1,1,none⟩=some (.int .i64 0)/\u.cell? ⟨wi.heap.size+1,2,none⟩=some (.int .i64 kc')/\u.cell? ⟨wi.heap.size+1,3,none⟩=some (.int .u64 (xa:Int))/\u.cell? ⟨wi.heap.size+1,4,none⟩=some (.int .u64 (xb:Int))/\u.cell? ⟨wi.heap.size+1,5,none⟩=some (.int .u64 (xc:Int)))
            (first|exact⟨z0,z1,z2,cq,v4,v5,v6,k0,k1,k2,k3,k4,k5⟩|exact⟨GG,FP,GL,gcq,WZ,YB,YC,ET,EK,GI,GX,FH,FD⟩|go_keep)
            ((go_at_call 52;refine(HLG.out _ ?_).mono ?_;(exact(Gr.refl _).drew);rintro e w4 ⟨a',c',rfl,hn',hb4⟩;replace hb4:=qO hb4;have GG:=(hb4.cell (World.block_lt_of_cell? _ _ z0)).trans z0;have FP:=(hb4.cell (World.block_lt_of_cell? _ _ z1)).trans z1;have GL:=(hb4.cell (World.block_lt_of_cell? _ _ z2)).trans z2;have WZ:=(hb4.cell (World.block_lt_of_cell? _ _ v4)).trans v4;have YB:=(hb4.cell (World.block_lt_of_cell? _ _ v5)).trans v5;have YC:=(hb4.cell (World.block_lt_of_cell? _ _ v6)).trans v6;have ET:=(hb4.cell (World.block_lt_of_cell? _ _ k0)).trans k0;have EK:=(hb4.cell (World.block_lt_of_cell? _ _ k1)).trans k1;have GI:=(hb4.cell (World.block_lt_of_cell? _ _ k2)).trans k2;have GX:=(hb4.cell (World.block_lt_of_cell? _ _ k3)).trans k3;have FH:=(hb4.cell (World.block_lt_of_cell? _ _ k4)).trans k4;have FD:=(hb4.cell (World.block_lt_of_cell? _ _ k5)).trans k5;have gcq:=(hb4.cell (World.block_lt_of_cell? _ _ cq)).trans cq))
           have IE:=Hst2.out.grown hb4
           have hqlt:=Hst2.out.lt
           have vN:=IE.put (c':=c') hn'.1 (λb off e=>by have h1:=(hn'.2 b off e).1;have h2:w2.heap.size<=b:=h1;omega)
           have hch:Chg (λb=>b=q) w4 (w4.setCell ⟨q,0,none⟩ (.slice a' st'.length c')):=(Chg.refl (λb=>b=q) w4).setCell (p:=⟨q,0,none⟩) (.inl rfl) _
           have UG:=(Hol2.out.grown hb4).chg hch (λb off e=>Hoq.out b off e)
           have hb5:Below w.heap.size w (w4.setCell ⟨q,0,none⟩ (.slice a' st'.length c')):=(Gr.trans Hb.out (Gr.trans Hb2.out hb4)).trans (hch.below (λb h=>by omega) (Gr.trans Hb.out (Gr.trans Hb2.out hb4)).size)
           have YM:=EK
           obtain⟨XG,YF⟩:=IE.cell
           have Hst5:=Lib.hid vN;have Hol5:=Lib.hid UG;have Hb5:=Lib.hid hb5
           clear IE hqlt vN hch UG hb5 GG FP GL gcq WZ YB YC ET EK GI GX FH FD z0 z1 z2 cq v4 v5 v6 k0 k1 k2 k3 k4 k5 v2 hb4 hn'
           go_wp2
           go_roundw
           case rel=>exact⟨k+1,st',a',c',by omega,by go_num,Hb5.out,Hol5.out,Hst5.out,Hinv'.out,Hfo.out⟩
           case measure=>simp [intOf]<;>omega
         ·rw [if_pos ho] at AC
          obtain⟨hans,rV⟩:=AC
          by_cases hr0:rs=0
          ·have r2:((rs:Int) == 0)=true:=by simpa using hr0
           have r3:((rs:Int) != 0)=false:=by simpa using hr0
           have Hfo:=Lib.hid rV
           clear hans rV hr0
           have Hb4:=Lib.hid (Gr.trans Hb.out Hb2.out)
           by_cases h0:ob<0
           ·go_wp2
            go_roundw
            case rel=>exact⟨k+1,st,a,c,by omega,by go_num,Hb4.out,Hol2.out,Hst2.out,Hinv.out,Hfo.out⟩
            case measure=>simp [intOf]<;>omega
           ·have h1:(1:Int)<=ob:=by omega
            go_wp2
            go_roundw
            case rel=>exact⟨k+1,st,a,c,by omega,by go_num,Hb4.out,Hol2.out,Hst2.out,Hinv.out,Hfo.out⟩
            case measure=>simp [intOf]<;>omega
          ·have r2:¬ (rs:Int)=0:=by omega
           have r3:((rs:Int) != 0)=true:=by simpa using hr0
           have r4:((rs:Int) == 0)=false:=by simpa using hr0
           have zG:=hans (by omega)
           cases zG
           have Hfo:=Lib.hid rV
           have AE:=Lib.hid (λ(u:World) (h:Below w2.heap.size w2 u)=>HY 12 0 [] la none lc 0 u (aW.nil _ _ _ _) (aW.nil _ _ _ _))
           clear hans rV
           have WU:ln=0:=Hln.out
           subst WU
           have v4:w2.cell? ⟨wi.heap.size,4,none⟩=some (.int .i64 12):=by rw [aA X2.out];rfl
           have v5:w2.cell? ⟨wi.heap.size,5,none⟩=some (.int .u64 0):=by rw [aA X2.out];rfl
           have v6:w2.cell? ⟨wi.heap.size,6,none⟩=some (.slice la 0 lc):=by rw [aA X2.out];rfl
           by_cases h0:ob<0
           ·go_wp2_with (go_at_call 50;refine(AE.out _ (Gr.refl _)).mono ?_;rintro e w4 ⟨rfl,hb4⟩)
            have Hst4:=Lib.hid (Hst2.out.grown hb4);have Hol4:=Lib.hid (Hol2.out.grown hb4);have Hb4:=Lib.hid (Gr.trans Hb.out (Gr.trans Hb2.out hb4))
            go_roundw
            case rel=>exact⟨k+1,st,a,c,by omega,by go_num,Hb4.out,Hol4.out,Hst4.out,Hinv.out,Hfo.out⟩
            case measure=>simp [intOf]<;>omega
           ·have h1:(1:Int)<=ob:=by omega
            go_wp2_with (go_at_call 50;refine(AE.out _ (Gr.refl _)).mono ?_;rintro e w4 ⟨rfl,hb4⟩)
            have Hst4:=Lib.hid (Hst2.out.grown hb4);have Hol4:=Lib.hid (Hol2.out.grown hb4);have Hb4:=Lib.hid (Gr.trans Hb.out (Gr.trans Hb2.out hb4))
            go_roundw
            case rel=>exact⟨k+1,st,a,c,by omega,by go_num,Hb4.out,Hol4.out,Hst4.out,Hinv.out,Hfo.out⟩
            case measure=>simp [intOf]<;>omega
        ·have l1:¬ (k:Int)<(Ln:Int):=by omega
         have Hb:=Lib.hid hb
         clear hb hol hst hinv hfo
         go_wp2
         go_ret
         exact⟨rfl,Hb.out⟩
end Go.Proofs.Ytifhldnmcdbpfaa
