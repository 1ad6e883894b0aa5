/- Layer 27: the snapshot as the reference has it. -/
import Derived.Test.YtifhldnmcdbpfaaU38
import Derived.Test.YtifhldnmcdbpfaaU39
import Derived.Test.YtifhldnmcdbpfaaU14
import Derived.Test.YtifhldnmcdbpfaaU15
set_option maxRecDepth 100000
set_option linter.unusedVariables false
set_option linter.unusedSimpArgs false
set_option linter.unnecessarySimpa false
namespace Go.Proofs.Ytifhldnmcdbpfaa
section
open Go.RowKit
set_option maxHeartbeats 4000000 in
theorem FZ (n m k L:Nat) (hm1:1<=m) (hm:m<=16) (hn:n<=16) (hk:k<=64) (hL:L=m+n) (u:World) (a:Option Addr) (c:Nat) (st:List Nat) (hst:st.length=L) (x:aF) (hs:aW u a L 1 (dY st)) (hx:iJ x) :
  Calls Try.prog 51 #[.int .i64 (n:Int),jY 6 (m:Int) (k:Int),.slice a L c,fG x] u (sO (jC n m k) st x u):=by
 have HLL:=Lib.hid hL;have hLb:L<=32:=by omega
 have hL1:1<=L:=by omega
 clear hL
 obtain⟨b,o,rfl,hb,h4⟩:=hs.2 0 (by omega)
 have e4:∀ j,j<L->u.cell? ⟨b,o+j,none⟩=some (.int .u64 ((st.getD j 0:Nat):Int)):=λj hj=>by
  obtain⟨b9,o9,e9,_,h9⟩:=hs.2 j hj
  cases e9
  have h0:=h9 0 (by omega)
  rw [Nat.mul_one,Nat.add_zero] at h0
  exact h0
 obtain⟨th,ob,kd',ca,cb,cc⟩:=x
 obtain⟨wa,hwa⟩:∃ wa,wa=(((u.alloc (.cells #[.int .i64 6,.int .i64 (m:Int),.int .i64 (k:Int)] 51)).alloc (.cells #[.int .i64 th,.int .i64 ob,.int .i64 kd',.int .u64 (ca:Int),.int .u64 (cb:Int),.int .u64 (cc:Int)] 46)).alloc (.cells #[.int .i64 0,.int .u64 0,.slice none 0 0] 42)).alloc (.cells #[] 40):=⟨_,rfl⟩
 have hga:Below u.heap.size u wa:=by rw [hwa];exact iG u [_,_,_,_]
 have r0:wa.heap[u.heap.size]?=some (.cells #[.int .i64 6,.int .i64 (m:Int),.int .i64 (k:Int)] 51 (0,0)):=by rw [hwa];exact dE [_,_,_,_] u 0 _ rfl
 have r1:wa.heap[u.heap.size+1]?=some (.cells #[.int .i64 th,.int .i64 ob,.int .i64 kd',.int .u64 (ca:Int),.int .u64 (cb:Int),.int .u64 (cc:Int)] 46 (0,0)):=by rw [hwa];exact dE [_,_,_,_] u 1 _ rfl
 have r2:wa.heap[u.heap.size+2]?=some (.cells #[.int .i64 0,.int .u64 0,.slice none 0 0] 42 (0,0)):=by rw [hwa];exact dE [_,_,_,_] u 2 _ rfl
 have r3:wa.heap[u.heap.size+3]?=some (.cells #[] 40 (0,0)):=by rw [hwa];exact dE [_,_,_,_] u 3 _ rfl
 have hwsz:wa.heap.size=u.heap.size+4:=by rw [hwa];simp
 have x4:∀ j,j<L->wa.cell? ⟨b,o+j,none⟩=some (.int .u64 ((st.getD j 0:Nat):Int)):=λj hj=>(hga.cell hb).trans (e4 j hj)
 obtain⟨i0,hi,hz0,hz1,hz2⟩:=info_parts jN
 have hown:wa.ownsRow (u.heap.size+3) 40 1 (.slice (some ⟨u.heap.size+3,0,none⟩) 0 0) 0 []:=⟨rfl,.inr ⟨u.heap.size+3,0,#[],rfl,Nat.le_refl _,r3,Nat.le_refl _,Nat.zero_le _,rfl,rfl⟩⟩
 have hnew:∀ j w',(st.map cZ)[j]?=some w'->wa.cell? ((⟨b,o,none⟩:Addr).add j)=some w':=by
  intro j w' h
  have hj:j<st.length:=by
   rcases Nat.lt_or_ge j st.length with h9|h9
   ·exact h9
   ·rw [List.getElem?_eq_none (by simpa using h9)] at h;cases h
  rw [jK hj] at h
  cases h
  have e8:(⟨b,o,none⟩:Addr).add j=⟨b,o+j,none⟩:=by unfold Addr.add;split<;>simp_all
  rw [e8];exact x4 j (by omega)
 rw [hwa] at hown hnew
 have Hown:=Lib.hid hown;have Hnew:=Lib.hid hnew;have Hwa:=Lib.hid hwa;have Hga:=Lib.hid hga;have R0:=Lib.hid r0;have R1:=Lib.hid r1;have R2:=Lib.hid r2;have Hwsz:=Lib.hid hwsz;have Hst:=Lib.hid hst;have Hx:=Lib.hid hx
 unfold jY fG
 simp only
 clear hown hnew hwa hga r0 r1 r2 r3 hs h4 e4 hx hb hwsz x4 hst
 go_enter Try.func51,Try.ntmps51
 go_wp2_with (at_builtin;refine wpList_append_own _ rfl (.tmp 11) (.tmp 12) 28 rfl (u.heap.size+3) 40 i0 (.int .u64 0) 1 8 Try.underlying28 hi hz0 hz1 hz2 rfl (by decide) (.slice (some ⟨u.heap.size+3,0,none⟩) 0 0) 0 [] rfl Hown.out ⟨b,o,none⟩ L c (st.map cZ) rfl ?c1 Hnew.out ?c2 ?c3 ?c4 ?c5 ?_)
 case c1=>rw [List.length_map,Nat.mul_one];exact Hst.out
 case c2=>intro w' hw';obtain⟨y,_,rfl⟩:=List.mem_map.1 hw';rfl
 case c3=>unfold maxLen;omega
 case c4=>omega
 case c5=>simp
 intro o' w1 hown1 hgrow _
 obtain⟨z,hz⟩:∃ z,L=z+1:=⟨L - 1,by omega⟩
 have BN:=hown1
 rw [hz] at BN
 obtain⟨q,cp,rfl,hq1,hq2,hq3⟩:=sH BN
 rw [<-hz] at hown1 ⊢
 rw [<-Hwa.out] at hgrow
 have hch:Chg (λb=>u.heap.size+3<=b) wa w1:=(Chg.refl _ wa).grown hgrow (λk hk=>by simp only [Value.ownBlock,Option.some.injEq] at hk;exact .inl (by omega))
 have hb1:Below u.heap.size u w1:=Hga.out.trans (hch.below (λk h=>by omega) Hga.out.size)
 have s0:=(hch.block _ (by rw [Hwsz.out];omega) (by omega)).trans R0.out
 have s1:=(hch.block _ (by rw [Hwsz.out];omega) (by omega)).trans R1.out
 have s2:=(hch.block _ (by rw [Hwsz.out];omega) (by omega)).trans R2.out
 have z0:w1.cell? ⟨u.heap.size,0,none⟩=some (.int .i64 6):=by rw [aA s0];rfl
 have ZG:w1.cell? ⟨u.heap.size,1,none⟩=some (.int .i64 (m:Int)):=by rw [aA s0];rfl
 have YQ:w1.cell? ⟨u.heap.size,2,none⟩=some (.int .i64 (k:Int)):=by rw [aA s0];rfl
 have z2:w1.cell? ⟨u.heap.size+1,2,none⟩=some (.int .i64 kd'):=by rw [aA s1];rfl
 have a0:w1.cell? ⟨u.heap.size+1+1,0,none⟩=some (.int .i64 0):=by rw [show u.heap.size+1+1=u.heap.size+2 from rfl,aA s2];rfl
 have a1:w1.cell? ⟨u.heap.size+1+1,1,none⟩=some (.int .u64 0):=by rw [show u.heap.size+1+1=u.heap.size+2 from rfl,aA s2];rfl
 have a2:w1.cell? ⟨u.heap.size+1+1,2,none⟩=some (.slice none 0 0):=by rw [show u.heap.size+1+1=u.heap.size+2 from rfl,aA s2];rfl
 have f0:w1.frozen? ⟨u.heap.size+1+1,0,none⟩=false:=aC s2 0
 have f1:w1.frozen? ⟨u.heap.size+1+1,1,none⟩=false:=aC s2 1
 have f2:w1.frozen? ⟨u.heap.size+1+1,2,none⟩=false:=aC s2 2
 have hlt2:u.heap.size+1+1<w1.heap.size:=aH s2
 have y0:w1.cell? ⟨u.heap.size+1,0,none⟩=some (.int .i64 th):=by rw [aA s1];rfl
 have y1:w1.cell? ⟨u.heap.size+1,1,none⟩=some (.int .i64 ob):=by rw [aA s1];rfl
 have y3:w1.cell? ⟨u.heap.size+1,3,none⟩=some (.int .u64 (ca:Int)):=by rw [aA s1];rfl
 have y4:w1.cell? ⟨u.heap.size+1,4,none⟩=some (.int .u64 (cb:Int)):=by rw [aA s1];rfl
 have y5:w1.cell? ⟨u.heap.size+1,5,none⟩=some (.int .u64 (cc:Int)):=by rw [aA s1];rfl
 have Hown1:=Lib.hid hown1;have Hb1:=Lib.hid hb1;have S2:=Lib.hid s2;have Hq1:=Lib.hid hq1;have Hq2:=Lib.hid hq2
 clear hown1 hgrow hch hb1 s0 s1 s2 Hown Hnew Hwa Hga R0 R1 R2 Hwsz hq1 hq2
 have AD:=Lib.hid (QT m k n L hm1 hm hk hn HLL.out w1 _ q cp st Hst.out ⟨th,ob,kd',ca,cb,cc⟩ ⟨th,ob,kd',ca,cb,cc⟩ Hx.out Hx.out Hown1.out Hq2.out)
 unfold fG at AD
 simp only at AD
 clear BN hz a0 a1 a2 f0 f1 f2
 go_wp2_with fail
 refine AD.out.mono ?_
 intro e w2 H9
 replace H9:fT L q cp (jC n m k st ⟨th,ob,kd',ca,cb,cc⟩) w1 w2 e:=H9
 unfold fT at H9
 obtain⟨la,lc,rfl,rW,hla,hrow2,hlq⟩:=H9
 have s3:=(rW.block _ (aH S2.out) (by have:=Hq1.out;omega)).trans S2.out
 have a0:w2.cell? ⟨u.heap.size+1+1,0,none⟩=some (.int .i64 0):=by rw [show u.heap.size+1+1=u.heap.size+2 from rfl,aA s3];rfl
 have a1:w2.cell? ⟨u.heap.size+1+1,1,none⟩=some (.int .u64 0):=by rw [show u.heap.size+1+1=u.heap.size+2 from rfl,aA s3];rfl
 have a2:w2.cell? ⟨u.heap.size+1+1,2,none⟩=some (.slice none 0 0):=by rw [show u.heap.size+1+1=u.heap.size+2 from rfl,aA s3];rfl
 have f0:w2.frozen? ⟨u.heap.size+1+1,0,none⟩=false:=aC s3 0
 have f1:w2.frozen? ⟨u.heap.size+1+1,1,none⟩=false:=aC s3 1
 have f2:w2.frozen? ⟨u.heap.size+1+1,2,none⟩=false:=aC s3 2
 have hlt3:u.heap.size+1+1<w2.heap.size:=aH s3
 have S3:=Lib.hid s3;have Hch2:=Lib.hid rW;have Hrow2:=Lib.hid hrow2;have Hla:=Lib.hid hla;have Hlq:=Lib.hid hlq
 obtain⟨ar,har⟩:∃ ar,ar=jC n m k st ⟨th,ob,kd',ca,cb,cc⟩:=⟨_,rfl⟩
 rw [<-har] at Hla Hrow2 ⊢
 have Har:=Lib.hid har
 obtain⟨st',er,vl,li⟩:=ar
 unfold gF
 simp only
 simp only at Hla Hrow2
 obtain⟨ll,hll⟩:∃ ll,ll=li.length:=⟨_,rfl⟩
 rw [<-hll]
 have Hll:=Lib.hid hll
 clear hll
 clear s3 rW hrow2 hla hlq z0 z2 ZG YQ y0 y1 y3 y4 y5 har
 go_wp2
 obtain⟨t1,t2,t3⟩:=TE S3.out (.int .i64 er) (.int .u64 (vl:Int)) (.slice la ll lc)
 obtain⟨w3,hw3⟩:∃ w3,w3=(((w2.setCell ⟨u.heap.size+2,0,none⟩ (.int .i64 er)).setCell ⟨u.heap.size+2,1,none⟩ (.int .u64 (vl:Int))).setCell ⟨u.heap.size+2,2,none⟩ (.slice la ll lc)):=⟨_,rfl⟩
 rw [<-hw3] at t1 t2 t3
 rw [show u.heap.size+1+1=u.heap.size+2 from rfl,<-hw3]
 have k0:w3.cell? ⟨u.heap.size+2,0,none⟩=some (.int .i64 er):=by rw [aA t1];rfl
 have k1:w3.cell? ⟨u.heap.size+2,1,none⟩=some (.int .u64 (vl:Int)):=by rw [aA t1];rfl
 have k2:w3.cell? ⟨u.heap.size+2,2,none⟩=some (.slice la ll lc):=by rw [aA t1];rfl
 refine bodyPost_ret (v:=.tuple #[.slice (some ⟨q,0,none⟩) L cp,gF er vl (.slice la ll lc)]) (by simp [results,Try.results51 ,go_sem,gF,k0,k1,k2]) rfl ?_
 have hq1:=Hq1.out;have hq2:=Hq2.out;have hc2:=Hch2.out.size;have hs3:=t2.size
 unfold sO
 rw [<-Har.out]
 have hl':st'.length=L:=by
  have e:(jC n m k st ⟨th,ob,kd',ca,cb,cc⟩).1.length=st.length:=zH m k n st ⟨th,ob,kd',ca,cb,cc⟩ ca cb
  rw [<-Har.out,Hst.out] at e;exact e
 have hlx:∀ b off,la=some ⟨b,off,none⟩->w1.heap.size<=b:=Hlq.out
 refine⟨some ⟨q,0,none⟩,cp,la,lc,by rw [Hll.out,hl'],⟨Hrow2.out.chg t2 (λb off e h=>by cases e;omega),λb off e=>?_⟩,Hla.out.chg t2 (λb off e h=>by have:=hlx b off e;have:=Hq1.out;have:=Hq2.out;omega),(Hb1.out.trans (Hch2.out.below (λk h=>by omega) Hb1.out.size)).trans (t2.below (λk h=>by omega) (Nat.le_trans Hb1.out.size hc2))⟩
 cases e
 omega
theorem LY (n m k:Nat) (hn:n<=16) (hm1:1<=m) (hm:m<=16) (hk1:1<=k) (hk:k<=64) (u:World):Calls Try.prog 47 #[.int .i64 (n:Int),jY 6 (m:Int) (k:Int)] u λe u'=>∃ z:Int,e=.returned (.int .i64 z)/\0<=z/\Below u.heap.size u u':=by
 obtain⟨a,ha⟩:∃ a:Nat,a=n*k:=⟨_,rfl⟩
 have hml:a<=1024:=by
  have:n*k<=16*64:=Nat.mul_le_mul hn hk
  omega
 obtain⟨b,hb⟩:∃ b:Nat,b=a*(m+1):=⟨_,rfl⟩
 have hbl:b<=100000:=by
  have:a*(m+1)<=1024*17:=Nat.mul_le_mul hml (by omega)
  omega
 have em:(n:Int)*(k:Int)=(a:Int):=by rw [ha];simp
 have eq:(a:Int)*((m:Int)+1)=(b:Int):=by rw [hb];simp
 have w1:IntKind.i64.wrap ((n:Int)*(k:Int))=(a:Int):=by rw [em,IntKind.wrap_i64];omega
 have w2:IntKind.i64.wrap ((m:Int)+1)=(m:Int)+1:=by rw [IntKind.wrap_i64];omega
 have w3:IntKind.i64.wrap ((a:Int)*((m:Int)+1))=(b:Int):=by rw [eq,IntKind.wrap_i64];omega
 have w4:IntKind.i64.wrap ((m:Int)+(b:Int))=(m:Int)+(b:Int):=by rw [IntKind.wrap_i64];omega
 have hmi:(m:Int)<=16:=by omega
 have Ac:(1:Int)<=(m:Int):=by omega
 have hki:(k:Int)<=64:=by omega
 have ZE:(1:Int)<=(k:Int):=by omega
 have Hz:=Lib.hid (show 0<=(m:Int)+(b:Int) by omega)
 unfold jY
 clear ha hml hb hbl em eq hn hk hk1 hm1 hm
 go_enter Try.func47,Try.ntmps47
 go_wp2
 go_ret
 exact⟨_,rfl,Hz.out,Gr.new _ _⟩
theorem PL (n m k:Nat) (hn:n<=16) (hm:m<=16) (u:World):Calls Try.prog 48 #[.int .i64 (n:Int),jY 6 (m:Int) (k:Int)] u λe u'=>∃ a c,e=.returned (.slice a (List.replicate (m+n) 0).length c)/\xW u u' a (List.replicate (m+n) 0)/\Below u.heap.size u u':=by
 obtain⟨z,hz⟩:∃ z,z=m+n:=⟨_,rfl⟩
 rw [<-hz]
 have hmk:=sK z (z:Int) rfl (by omega)
 have w1:IntKind.i64.wrap ((m:Int)+(n:Int))=(z:Int):=by rw [IntKind.wrap_i64];omega
 obtain⟨wa,hwa⟩:∃ wa,wa=u.alloc (.cells #[.int .i64 6,.int .i64 (m:Int),.int .i64 (k:Int)] 51):=⟨_,rfl⟩
 have hga:Below u.heap.size u wa:=by rw [hwa];exact Gr.new _ _
 have p0:wa.cell? ⟨u.heap.size,0,none⟩=some (.int .i64 6):=by rw [hwa,aA (heap_alloc_new _ _)];rfl
 have p1:wa.cell? ⟨u.heap.size,1,none⟩=some (.int .i64 (m:Int)):=by rw [hwa,aA (heap_alloc_new _ _)];rfl
 have hsz:u.heap.size<=wa.heap.size:=by rw [hwa];simp
 have Hga:=Lib.hid hga;have Hwa:=Lib.hid hwa;have Hsz:=Lib.hid hsz
 have fin:xW u (wa.alloc (.cells (madeCells #[.int .u64 0] z) 40)) (some ⟨wa.heap.size,0,none⟩) (List.replicate z 0)/\Below u.heap.size u (wa.alloc (.cells (madeCells #[.int .u64 0] z) 40)):=
  ⟨⟨vQ (heap_alloc_new _ _) (by omega),λb off e=>by cases e;simp;exact hsz⟩,Gr.trans hga (Gr.new _ _)⟩
 have Fin:=Lib.hid fin
 unfold jY
 rw [List.length_replicate]
 clear hga hwa hsz fin hz hm
 go_enter Try.func48,Try.ntmps48
 go_upto_region 1 with fail
 rw [<-Hwa.out]
 go_wp2
 go_ret
 exact⟨_,_,rfl,Fin.out.1,Fin.out.2⟩
theorem JG (n m k:Nat) (hn:n<=16) (hm1:1<=m) (hm:m<=16) (hk1:1<=k) (hk:k<=64):xQ 6 (m:Int) (k:Int) n (jC n m k) (List.replicate (m+n) 0) (λst=>st.length=m+n) where
 size:=LY n m k hn hm1 hm hk1 hk
 new:=PL n m k hn hm
 apply:=by
  rintro u a c st x hs hst hx
  have hs':aW u a (m+n) 1 (dY st):=by rw [<-hst];exact hs
  have:=FZ n m k (m+n) hm1 hm hn hk rfl u a c st hst x hs' hx
  rw [hst];exact this
 inv0:=by simp
 invS:=by
  rintro st x hst hx
  show(jC n m k st x).1.length=m+n
  unfold jC
  rw [zH];exact hst
 queue:=by omega
end
section
open Go.RowKit
set_option maxHeartbeats 4000000 in
theorem kH (ks:List Int) (iv rs:Nat) (a:Option Addr) (c:Nat) (w:World) (hs:aW w a ks.length 1 (iY ks)) (hk:Within ks iv rs) (hr:rs<1000000) :
  Calls Try.prog 46 #[.slice a ks.length c,.int .i64 (iv:Int),.int .i64 (rs:Int)] w λe w'=>e=.returned (.bool true)/\Below w.heap.size w w':=by
 obtain⟨h1,h2,h3⟩:=hk
 match ks,h1 with
 | k::ks,_=>
  simp only [List.headD_cons] at h2 h3
  obtain⟨b,o,rfl,_,h4⟩:=hs.2 0 (by simp)
  have hm:=hs.1
  have e4:w.cell? ⟨b,o,none⟩=some (.int .i64 k):=by have h0:=h4 0 (by omega);rw [Nat.zero_mul,Nat.add_zero] at h0;simpa [iY] using h0
  obtain⟨n,hn⟩:∃ n,n=(k::ks).length:=⟨_,rfl⟩
  have hn0:0<n:=by rw [hn];simp
  rw [<-hn] at hm ⊢
  unfold maxLen at hm
  have l0:(0:Int)<(n:Int):=by omega
  have l1:(iv:Int)<=k.tdiv 2:=by rw [Int.tdiv_eq_ediv_of_nonneg (by omega)];omega
  have l2:(k+1).tdiv 2<=(rs:Int):=by rw [Int.tdiv_eq_ediv_of_nonneg (by omega)];omega
  have l3:0<=k/\k<2000000:=by omega
  have w1:IntKind.i64.wrap (k.tdiv 2)=k.tdiv 2:=by rw [IntKind.wrap_i64,Int.tdiv_eq_ediv_of_nonneg (by omega)];omega
  have w2:IntKind.i64.wrap ((k+1).tdiv 2)=(k+1).tdiv 2:=by rw [IntKind.wrap_i64,Int.tdiv_eq_ediv_of_nonneg (by omega)];omega
  have w3:IntKind.i64.wrap (k+1)=k+1:=by rw [IntKind.wrap_i64];omega
  clear hs h4 h2 h3 hn hn0 hr
  go_enter Try.func46,Try.ntmps46
  go_wp2
  go_ret
  exact⟨rfl,Gr.refl _⟩
end
end Go.Proofs.Ytifhldnmcdbpfaa
