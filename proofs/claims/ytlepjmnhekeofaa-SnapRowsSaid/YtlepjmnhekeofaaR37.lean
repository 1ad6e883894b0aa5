/- Layer 15: the snapshot as the loom's object: its machines answer, and start. -/
import Derived.Test.YtlepjmnhekeofaaR36
import Derived.Test.YtlepjmnhekeofaaR23
set_option maxRecDepth 100000
set_option linter.unusedVariables false
set_option linter.unusedSimpArgs false
set_option linter.unnecessarySimpa false
namespace Go.Proofs.Ytlepjmnhekeofaa
section
open Go.RowKit
theorem srd_step_m (a : Addr) : Meth 217 (.pointer (some a)) "Step" 168 (.pointer (some a)) := ⟨fun _ _ => by kernel_rfl, fun _ _ => by kernel_rfl, fun _ _ => by kernel_rfl⟩
theorem srd_answer_m (a : Addr) : Meth 217 (.pointer (some a)) "Answer" 167 (.pointer (some a)) := ⟨fun _ _ => by kernel_rfl, fun _ _ => by kernel_rfl, fun _ _ => by kernel_rfl⟩
theorem sup_step_m (a : Addr) : Meth 222 (.pointer (some a)) "Step" 174 (.pointer (some a)) := ⟨fun _ _ => by kernel_rfl, fun _ _ => by kernel_rfl, fun _ _ => by kernel_rfl⟩
theorem sup_answer_m (a : Addr) : Meth 222 (.pointer (some a)) "Answer" 173 (.pointer (some a)) := ⟨fun _ _ => by kernel_rfl, fun _ _ => by kernel_rfl, fun _ _ => by kernel_rfl⟩
theorem snap_start_m (a : Addr) : Meth 69 (.pointer (some a)) "Start" 128 (.pointer (some a)) := ⟨fun _ _ => by kernel_rfl, fun _ _ => by kernel_rfl, fun _ _ => by kernel_rfl⟩
theorem srd_kind (v:Value) (u:World):(Instr.typeAssert (.iface 217 v) 115 146 true).run Try.prog u=.ok (.tuple #[.nilIface,.bool false]) u:=run_typeAssert_lacksB Try.underlying146 (by kernel_rfl) (by kernel_rfl) v _ u
theorem sup_kind (v:Value) (u:World):(Instr.typeAssert (.iface 222 v) 115 146 true).run Try.prog u=.ok (.tuple #[.nilIface,.bool false]) u:=run_typeAssert_lacksB Try.underlying146 (by kernel_rfl) (by kernel_rfl) v _ u
theorem sup_answer (b:Nat) (w:World):Calls Try.prog 173 #[.pointer (some ⟨b,0,none⟩)] w λe w'=>e=.returned (.tuple #[ansV 0 0 (.slice none 0 0),.slice none 0 0])/\Below w.heap.size w w':=by
 unfold ansV
 go_enter Try.func173,Try.ntmps173
 go_wp2
 exact bodyPost_ret (v:=.tuple #[.agg #[.int .i64 0,.int .u64 0,.slice none 0 0],.slice none 0 0]) (by simp [results,Try.results173 ,go_sem]) rfl ⟨rfl,Gr.new _ _⟩
theorem srd_answer (b bs ln lc kn kc:Nat) (la ka:Option Addr) (w:World) (h:w.heap[b]?=some (.cells (snRd bs (.slice ka kn kc)) 221 (0,0))) (hl:w.cell? ⟨bs,54,none⟩=some (.slice la ln lc)) (hsl:bs<w.heap.size) :
  Calls Try.prog 167 #[.pointer (some ⟨b,0,none⟩)] w λe w'=>e=.returned (.tuple #[ansV 0 0 (.slice la ln lc),.slice ka kn kc])/\Below w.heap.size w w':=by
 have hlt:=blk_lt h
 have d0:w.cell? ⟨b,0,none⟩=some (.pointer (some ⟨bs,0,none⟩)):=by rw [cell_blk h];rfl
 have d1:w.cell? ⟨b,1,none⟩=some (.slice ka kn kc):=by rw [cell_blk h];rfl
 have c0:=(World.cell?_alloc_lt w (.cells #[.int .i64 0,.int .u64 0,.slice none 0 0] 42) ⟨b,0,none⟩ hlt).trans d0
 have c1:=(World.cell?_alloc_lt w (.cells #[.int .i64 0,.int .u64 0,.slice none 0 0] 42) ⟨b,1,none⟩ hlt).trans d1
 have c2:=(World.cell?_alloc_lt w (.cells #[.int .i64 0,.int .u64 0,.slice none 0 0] 42) ⟨bs,54,none⟩ hsl).trans hl
 have hne:w.heap.size≠b:=by omega
 have hne2:b≠w.heap.size:=by omega
 have hne3:bs≠w.heap.size:=by omega
 have hne4:w.heap.size≠bs:=by omega
 clear h
 unfold ansV
 go_enter Try.func167,Try.ntmps167
 go_wp2_with fail
 go_region_held3 (λu=>u.cell? ⟨b,0,none⟩=some (.pointer (some ⟨bs,0,none⟩))/\u.cell? ⟨b,1,none⟩=some (.slice ka kn kc)/\u.cell? ⟨bs,54,none⟩=some (.slice la ln lc)) (first|exact⟨c0,c1,c2⟩|exact⟨(World.cell?_alloc_lt _ _ _ hlt).trans d0,(World.cell?_alloc_lt _ _ _ hlt).trans d1,(World.cell?_alloc_lt _ _ _ hsl).trans hl⟩|go_keep) (fail)
 all_goals
  go_wp2
  exact bodyPost_ret (v:=.tuple #[.agg #[.int .i64 0,.int .u64 0,.slice la ln lc],.slice ka kn kc]) (by simp [results,Try.results167 ,go_sem]) rfl ⟨rfl,by first|exact(Gr.new _ _).drew|exact Gr.new _ _⟩
theorem new_scan (bP:Nat) (w:World):Calls Try.prog 130 #[.pointer (some ⟨bP,0,none⟩)] w λe w'=>e=.returned (.pointer (some ⟨w.heap.size,0,none⟩))/\Below w.heap.size w w'/\w'.heap.size=w.heap.size+1/\w'.heap[w.heap.size]?=some (.cells (scanL bP sc0 (.slice none 0 0)).toArray 229 (0,0)):=by
 go_enter Try.func130,Try.ntmps130
 go_wp2
 go_ret
 exact⟨rfl,Gr.new _ _,by simp,heap_alloc_new _ _⟩
theorem snap_record (bP n k t r:Nat) (us:List Nat) (hn:n<=16) (hk:k<=64) (ht:t<16) (hr:r<=64) (w:World) (hP:w.heap[bP]?=some (.cells (snapL n k us).toArray 100 (0,0))) :
  Calls Try.prog 129 #[.pointer (some ⟨bP,0,none⟩),.int .i64 (t:Int),.int .i64 (r:Int)] w λe w'=>e=.returned (.int .i64 ((snRecord n k t r:Nat):Int))/\Below w.heap.size w w':=by
 have c0:w.cell? ⟨bP,0,none⟩=some (.int .i64 0):=by rw [cell_blk hP];rfl
 have c1:w.cell? ⟨bP,1,none⟩=some (.int .i64 (n:Int)):=by rw [cell_blk hP];rfl
 have c2:w.cell? ⟨bP,2,none⟩=some (.int .i64 (k:Int)):=by rw [cell_blk hP];rfl
 obtain⟨m,hm⟩:∃ m:Nat,m=t*k:=⟨_,rfl⟩
 have hm1:m<=1024:=by rw [hm];have:=Nat.mul_le_mul (show t<=16 by omega) hk;omega
 have em:(t:Int)*(k:Int)=(m:Int):=by rw [hm];simp
 obtain⟨q,hq⟩:∃ q:Nat,q=(m+r)*(n+1):=⟨_,rfl⟩
 have hq1:q<=100000:=by rw [hq];have:=Nat.mul_le_mul (show m+r<=1088 by omega) (show n+1<=17 by omega);omega
 have eq:((m:Int)+(r:Int))*((n:Int)+1)=(q:Int):=by rw [hq];simp
 have w2:IntKind.i64.wrap ((t:Int)*(k:Int))=(m:Int):=by rw [em,IntKind.wrap_i64];omega
 have w3:IntKind.i64.wrap ((m:Int)+(r:Int))=(m:Int)+(r:Int):=by rw [IntKind.wrap_i64];omega
 have w4:IntKind.i64.wrap ((n:Int)+1)=(n:Int)+1:=by rw [IntKind.wrap_i64];omega
 have w5:IntKind.i64.wrap (((m:Int)+(r:Int))*((n:Int)+1))=(q:Int):=by rw [eq,IntKind.wrap_i64];omega
 have w6:IntKind.i64.wrap ((n:Int)+(q:Int))=(n:Int)+(q:Int):=by rw [IntKind.wrap_i64];omega
 have w0:IntKind.i64.wrap (n:Int)=(n:Int):=by rw [IntKind.wrap_i64];omega
 have E:=Lib.hid (show((snRecord n k t r:Nat):Int)=(n:Int)+(q:Int) by unfold snRecord;rw [<-hm,<-hq];omega)
 rw [E.out]
 clear hP hm hm1 em hn hk hq hq1 eq ht hr
 go_enter Try.func129,Try.ntmps129
 go_wp2_with fail
 go_quiet (fail)
 go_wp2
 go_ret
 exact⟨rfl,below_drewN (Gr.refl w) nq⟩
end
section

/- Layer 15: the snapshot as the loom's object: to start. -/
open Go.RowKit
def snM (bP:Nat) (w:World) (Mut B:Nat->Prop) (T:TypeId) (x:Value) (_:Nat):SnS->Prop
 | .rd s key=>T=217/\∃ b bs lv kv,x=.pointer (some ⟨b,0,none⟩)/\w.heap[b]?=some (.cells (snRd bs kv) 221 (0,0))/\B b/\B bs/\b≠bs/\Lst w Mut kv key/\
  ((s.pc≠3/\ScAt w bs bP lv s/\∀ g,lv.ownBlock=some g->B g/\g≠bs/\g≠b)∨(s.pc=3/\ScBlk w bs bP s lv/\LstU w Mut lv s.list))
 | .up s p r nx v sc=>T=222/\∃ b bs lv,x=.pointer (some ⟨b,0,none⟩)/\w.heap[b]?=some (.cells (snUp bs p r nx v sc) 224 (0,0))/\B b/\B bs/\b≠bs/\ScAt w bs bP lv s/\(∀ g,lv.ownBlock=some g->B g/\g≠bs/\g≠b)/\v<18446744073709551616
def snLive (n:Nat) (o:List Nat) (wd:WD):SnS->Prop
 | .rd s _=>ScLive n wd s/\((scGo n wd s).pc=3->0<=(scGo n wd s).moment/\(scGo n wd s).moment<1000000000)
 | .up s _ _ _ _ false=>ScLive n wd s
 | .up s p r nx _ true=>s.list.length=n/\r<1000000/\nx<=n+1/\p<16/\o.getD p 0<1000000
def snapR (n k bP:Nat):Real (snapS n k) where
 T:=69
 x:=.pointer (some ⟨bP,0,none⟩)
 OB:=λb=>b=bP
 ORep:=λw Mut o=>w.heap[bP]?=some (.cells (snapL n k o).toArray 100 (0,0))/\List.length (α:=Nat) o=16/\Mut bP
 MRep:=snM bP
 inv:=λ_ _=>True
 dN:=1
 live:=λo wd _ s=>snLive n o wd s
 done:=λs=>match s with
  | .rd s _=>s.pc=3
  | .up _ _ _ _ _ _=>True
theorem sc0_at {w:World} {bs bP:Nat} (h:w.heap[bs]?=some (.cells (scanL bP sc0 (.slice none 0 0)).toArray 229 (0,0))):ScAt w bs bP (.slice none 0 0) sc0:=
 ⟨⟨h,rfl,rfl,rfl⟩,World.ownsRow_nil _ _ _ _,λ_=>rfl,λx hx=>by cases hx⟩
set_option maxHeartbeats 8000000 in
theorem snap_start (n k bP:Nat) (hn:n<=16) (hk:k<=64) (w:World) (Mut:Nat->Prop) (I:WIds) (N:Nat) (wd:WD) (o:List Nat) (p:Nat) (c:CallD) (hw:WorldAt w Mut I N wd) (ho:w.heap[bP]?=some (.cells (snapL n k o).toArray 100 (0,0))/\o.length=16/\Mut bP) (hp:p<16) (hc:CallOk c) :
  Calls Try.prog 128 #[.pointer (some ⟨bP,0,none⟩),.pointer (some ⟨I.bW,0,none⟩),.int .i64 (p:Int),callAgg c] w (StartPost (snapR n k bP) w Mut I wd o p c):=by
 obtain⟨th,ob,kd,ca,cb,cc⟩:=c
 have hca:ca<18446744073709551616:=hc.a
 have hlow:=hw.low
 obtain⟨hP,ho16,hm1⟩:=ho
 unfold callAgg
 simp only
 have hPl:=hlow _ hm1
 have nm:∀(d k:Nat),w.heap.size<=k->k≠d->¬ (mutTo Mut noB (λb=>b=d) k):=λd k hk hkd=>by
  rintro(⟨hx,_⟩|hx)
  ·have:=hlow _ hx;omega
  ·exact hkd hx
 have Nm:=Lib.hid nm
 obtain⟨wa,hwa,hga,hsz,ha1⟩:=pin_blks w th ob kd (ca:Int) (cb:Int) (cc:Int)
 have f2:wa.cell? ⟨w.heap.size,2,none⟩=some (.int .i64 kd):=by rw [cell_blk ha1];rfl
 have f3:wa.cell? ⟨w.heap.size,3,none⟩=some (.int .u64 (ca:Int)):=by rw [cell_blk ha1];rfl
 have hPa:=(hga.block bP hPl).trans hP
 obtain⟨q,hq⟩:∃ q,q=o.getD p 0:=⟨_,rfl⟩
 have STh:=Lib.hid (show(snapS n k).start o wd p ⟨th,ob,kd,ca,cb,cc⟩=(if kd=1 then Mc.run (SnS.rd sc0 []) else if kd≠0 then .refuse 9 else if k<=o.getD p 0 then .refuse 6 else .run (.up sc0 p (snRecord n k p (o.getD p 0)) 0 ca false)) from rfl)
 rw [<-hq] at STh
 have u3:wa.cell? ⟨bP,3+p,none⟩=some (.int .i64 (q:Int)):=by rw [cell_blk hPa,hq];simpa using snapL_get (n:=n) (k:=k) ho16 hp
 have u2:wa.cell? ⟨bP,2,none⟩=some (.int .i64 (k:Int)):=by rw [cell_blk hPa];rfl
 have l16:(p:Int)<16:=by omega
 have Hwa:=Lib.hid hwa;have Hga:=Lib.hid hga;have Hsz:=Lib.hid hsz;have HPa:=Lib.hid hPa;have Hca:=Lib.hid hca;have Hp:=Lib.hid hp
 clear hw hc hlow hP hm1 hca ho16 hq nm hwa hga hsz ha1 hPa hp
 by_cases h1:kd=1
 ·have Hst:=Lib.hid (show(snapS n k).start o wd p ⟨th,ob,kd,ca,cb,cc⟩=.run (.rd sc0 []) by rw [STh.out,if_pos h1];rfl)
  subst h1
  go_enter Try.func128,Try.ntmps128
  go_upto_region 1 with fail
  rw [<-Hwa.out]
  go_wp2_with fail
  refine(new_scan bP _).mono ?_
  rintro e w3 ⟨rfl,hb3,hz3,hk3⟩
  have Hb3:=Lib.hid hb3;have Hz3:=Lib.hid hz3;have Hk3:=Lib.hid hk3
  clear hb3 hz3 hk3
  go_wp2
  go_ret
  have hblk:=heap_alloc_new w3 (.cells (snRd wa.heap.size (.slice none 0 0)) 221 (0,0))
  have hk4:=((Gr.new w3 (.cells (snRd wa.heap.size (.slice none 0 0)) 221 (0,0))).block wa.heap.size (blk_lt Hk3.out)).trans Hk3.out
  have h5:=Hsz.out;have h6:=Hz3.out
  refine⟨_,_,λb=>b=wa.heap.size∨b=w3.heap.size,rfl,Gr.trans (Gr.trans Hga.out Hb3.out) (Gr.new _ _),λb hb=>?_,?_⟩
  ·rcases hb with rfl|rfl
   ·exact⟨by omega,by simp;omega⟩
   ·exact⟨by omega,by simp⟩
  rw [Hst.out]
  exact⟨rfl,w3.heap.size,wa.heap.size,.slice none 0 0,.slice none 0 0,rfl,hblk,.inr rfl,.inl rfl,by omega,Lst.nil _ _,.inl ⟨by decide,sc0_at hk4,λg hg=>by cases hg⟩⟩
 by_cases h0:kd=0
 ·by_cases hf:k<=q
  ·have Hst:=Lib.hid (show(snapS n k).start o wd p ⟨th,ob,kd,ca,cb,cc⟩=.refuse 6 by rw [STh.out,if_neg h1,if_neg (by simpa using h0),if_pos hf];rfl)
   have Rf:=Lib.hid (refuse_any 6)
   have l1:(k:Int)<=(q:Int):=by omega
   subst h0
   clear h1 hf STh
   go_enter Try.func128,Try.ntmps128
   go_upto_region 1 with fail
   rw [<-Hwa.out]
   go_wp2_with fail
   go_quiet (fail)
   have Hq:=Lib.hid (below_drewN (Gr.refl wa) nq)
   go_wp2_with (go_at_call 85;refine(Rf.out _).mono ?_;rintro e w' ⟨rfl,hrf,hbr⟩)
   go_ret
   have hsw:=Hsz.out
   refine⟨_,_,λb=>b=wa.heap.size+1,rfl,Gr.trans Hga.out (Gr.trans Hq.out hbr),λb hb=>by subst hb;exact⟨by omega,blk_lt hrf.1⟩,?_⟩
   rw [Hst.out]
   exact⟨rfl,wa.heap.size+1,wa.heap.size,rfl,hrf,rfl,Nm.out _ _ (by omega) (by omega)⟩
  ·have Hst:=Lib.hid (show(snapS n k).start o wd p ⟨th,ob,kd,ca,cb,cc⟩=.run (.up sc0 p (snRecord n k p q) 0 ca false) by rw [STh.out,if_neg h1,if_neg (by simpa using h0),if_neg hf];rfl)
   have l1:¬ (k:Int)<=(q:Int):=by omega
   have Rc:=Lib.hid (λ(u:World) (h:Below wa.heap.size wa u)=>snap_record bP n k p q o hn hk Hp.out (by omega) u ((h.block bP (blk_lt HPa.out)).trans HPa.out))
   obtain⟨rr,hrr⟩:∃ rr,rr=snRecord n k p q:=⟨_,rfl⟩
   rw [<-hrr] at Rc Hst
   have hwl:w.heap.size<wa.heap.size:=by have:=Hsz.out;omega
   have hPl2:=blk_lt HPa.out
   have Hwl:=Lib.hid hwl;have HPl2:=Lib.hid hPl2
   subst h0
   clear h1 hf STh hrr hwl hPl2
   go_enter Try.func128,Try.ntmps128
   go_upto_region 1 with fail
   rw [<-Hwa.out]
   go_wp2_with fail
   go_quiet (fail)
   have hgq:=below_drewN (Gr.refl wa) nq
   have v3:(wa.drewN nq).cell? ⟨bP,3+p,none⟩=some (.int .i64 (q:Int)):=u3
   have v4:(wa.drewN nq).cell? ⟨w.heap.size,3,none⟩=some (.int .u64 (ca:Int)):=f3
   obtain⟨wb,hwb⟩:∃ wb,wb=wa.drewN nq:=⟨_,rfl⟩
   have hbz:wb.heap.size=wa.heap.size:=by rw [hwb];rfl
   rw [<-hwb] at v3 v4 hgq ⊢
   have Hgq:=Lib.hid hgq;have Hbz:=Lib.hid hbz
   clear hwb hgq hbz u2 u3 f2 f3
   go_upto_region 7 with fail
   go_region_held3 (λu=>u.cell? ⟨bP,3+p,none⟩=some (.int .i64 (q:Int))/\u.cell? ⟨w.heap.size,3,none⟩=some (.int .u64 (ca:Int)))
    (first|exact⟨v3,v4⟩|exact⟨z3,z4⟩|exact⟨t3,t4⟩|go_keep)
    (first|(go_at_call 130;refine(new_scan bP _).mono ?_;rintro e w3 ⟨rfl,hb3,hz3,hk3⟩;have hb3':Below wa.heap.size wa w3:=Gr.trans Hgq.out (Gr.trans (Gr.refl wb).drew hb3);have z3:=(hb3.cell (p:=⟨bP,3+p,none⟩) (by show bP<wb.heap.size;rw [Hbz.out];exact HPl2.out)).trans v3;have z4:=(hb3.cell (p:=⟨w.heap.size,3,none⟩) (by show w.heap.size<wb.heap.size;rw [Hbz.out];exact Hwl.out)).trans v4)|(go_at_call 129;refine(Rc.out _ ?_).mono ?_;(exact hb3');rintro e w4 ⟨rfl,hb4⟩;have t3:=(hb4.cell (p:=⟨bP,3+p,none⟩) (World.block_lt_of_cell? _ _ z3)).trans z3;have t4:=(hb4.cell (p:=⟨w.heap.size,3,none⟩) (World.block_lt_of_cell? _ _ z4)).trans z4))
   have Hk3:=Lib.hid (show w3.heap[wb.heap.size]?=some (.cells (scanL bP sc0 (.slice none 0 0)).toArray 229 (0,0)) from hk3)
   have Hz3:=Lib.hid (show w3.heap.size=wb.heap.size+1 from hz3);have Hb3:=Lib.hid hb3';have Hb4:=Lib.hid hb4
   clear hk3 hz3 hb3 hb3' hb4 z3 z4 t3 t4 v3 v4
   go_wp2
   go_ret
   have hblk:=heap_alloc_new w4 (.cells (snUp wb.heap.size p rr 0 ca false) 224 (0,0))
   have hk4:=(Hb4.out.block wb.heap.size (blk_lt Hk3.out)).trans Hk3.out
   have hk5:=((Gr.new w4 (.cells (snUp wb.heap.size p rr 0 ca false) 224 (0,0))).block wb.heap.size (blk_lt hk4)).trans hk4
   have h5:=Hsz.out;have h6:=Hz3.out;have h7:=Hbz.out;have h8:=Hb4.out.size
   refine⟨_,_,λb=>b=wb.heap.size∨b=w4.heap.size,rfl,Gr.trans (Gr.trans (Gr.trans Hga.out Hb3.out) Hb4.out) (Gr.new _ _),λb hb=>?_,?_⟩
   ·rcases hb with rfl|rfl
    ·exact⟨by omega,by simp;omega⟩
    ·exact⟨by omega,by simp⟩
   rw [Hst.out]
   exact⟨rfl,w4.heap.size,wb.heap.size,.slice none 0 0,rfl,hblk,.inr rfl,.inl rfl,by omega,sc0_at hk5,(λg hg=>by cases hg),Hca.out⟩
 ·have Hst:=Lib.hid (show(snapS n k).start o wd p ⟨th,ob,kd,ca,cb,cc⟩=.refuse 9 by rw [STh.out,if_neg h1,if_pos h0];rfl)
  have Rf:=Lib.hid (refuse_any 9)
  have q1:(kd != 0)=true:=by simp [h0]
  have q0:(kd == 1)=false:=by simp [h1]
  go_enter Try.func128,Try.ntmps128
  go_upto_region 1 with fail
  rw [<-Hwa.out]
  go_wp2_with (go_at_call 85;refine(Rf.out _).mono ?_;rintro e w' ⟨rfl,hrf,hbr⟩)
  go_ret
  have hsw:=Hsz.out
  refine⟨_,_,λb=>b=wa.heap.size+1,rfl,Gr.trans Hga.out hbr,λb hb=>by subst hb;exact⟨by omega,blk_lt hrf.1⟩,?_⟩
  rw [Hst.out]
  exact⟨rfl,wa.heap.size+1,wa.heap.size,rfl,hrf,rfl,Nm.out _ _ (by omega) (by omega)⟩
end
end Go.Proofs.Ytlepjmnhekeofaa
