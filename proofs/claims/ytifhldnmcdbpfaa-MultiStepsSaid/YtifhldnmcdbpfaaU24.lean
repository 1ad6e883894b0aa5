/- Layer 16: a scan as it lies. -/
import Derived.Test.YtifhldnmcdbpfaaU17
import Derived.Test.YtifhldnmcdbpfaaU23
set_option maxRecDepth 100000
set_option linter.unusedVariables false
set_option linter.unusedSimpArgs false
set_option linter.unnecessarySimpa false
namespace Go.Proofs.Ytifhldnmcdbpfaa
section
open Go.RowKit
theorem sM {S S1:Nat->Prop} {a b c:World} (h:Chg S a b) (k:Chg S1 b c) (hs:∀ x,x<a.heap.size->S1 x->S x):Chg S a c:=
 ⟨k.os.trans h.os,k.tape.trans h.tape,k.output.trans h.output,Nat.le_trans h.size k.size,λi hi hn=>(k.block i (Nat.lt_of_lt_of_le hi h.size) (λx=>hn (hs i hi x))).trans (h.block i hi hn)⟩
structure MuV where
 bN:Nat
 ov:Value
 nv:Value
 rv:Value
 lv:Value
def qB (l:List Nat) (j _f:Nat):Value:=.int .i64 ((l.getD j 0:Nat):Int)
def muL (bP:Nat) (s:MuD) (v:MuV):List Value:=[.pointer (some ⟨bP,0,none⟩),v.ov,v.nv,.int .i64 (s.last:Int),.map (some v.bN),v.rv,.bool s.chosen,v.lv,.int .i64 s.moment]
def ntM (d:List Nat) (k:Int):Option Value:=if 0<=k/\d.getD k.toNat 0≠0 then some (.int .u64 ((d.getD k.toNat 0:Nat):Int)) else none
def ntN (d:List Nat):Nat:=d.countP (λx=>decide (x≠0))
structure MuAt (w:World) (b bP:Nat) (v:MuV) (s:MuD):Prop where
 blk:w.heap[b]?=some (.cells (muL bP s v).toArray 229 (0,0))
 old:gN w v.ov s.old
 now:gN w v.nv s.now
 lst:gN w v.lv s.list
 rds:∃ a c,v.rv=.slice a s.reads.length c/\s.reads.length<=c/\aW w a s.reads.length 1 (qB s.reads)
 nt:MapOf (.int .u64 0) w v.bN (ntN s.noted) (ntM s.noted)
 n16:s.noted.length=16
 nilO:s.old=[]->v.ov=.slice none 0 0
 nilR:s.chosen=false->s.reads=[]/\v.rv=.slice none 0 0
 s1:∀ g,v.nv.ownBlock=some g->v.ov.ownBlock≠some g/\v.lv.ownBlock≠some g/\v.rv.ownBlock≠some g
 s2:∀ g,v.lv.ownBlock=some g->v.ov.ownBlock≠some g/\v.rv.ownBlock≠some g
 s3:∀ g,v.rv.ownBlock=some g->g≠b/\g≠v.bN/\g<w.heap.size
def MuB (b:Nat) (v:MuV) (j:Nat):Prop:=j=b∨j=v.bN∨v.ov.ownBlock=some j∨v.nv.ownBlock=some j∨v.rv.ownBlock=some j∨v.lv.ownBlock=some j
structure gQ (w w':World) (b:Nat) (v v':MuV):Prop where
 chg:Chg (MuB b v) w w'
 own:∀ j,MuB b v' j->MuB b v j∨w.heap.size<=j
section
variable {w w' w1 w2:World} {b bP:Nat} {v v' v2:MuV} {s:MuD}
theorem gQ.refl (w:World) (b:Nat) (v:MuV):gQ w w b v v:=⟨Chg.refl _ _,λ_ h=>.inl h⟩
theorem gQ.trans (h:gQ w w1 b v v') (h':gQ w1 w2 b v' v2):gQ w w2 b v v2:=
 ⟨sM h.chg h'.chg (λj hj hs=>(h.own j hs).elim id (λh9=>by omega)),λj hj=>by
  rcases h'.own j hj with h9|h9
  ·exact h.own j h9
  ·exact .inr (Nat.le_trans h.chg.size h9)⟩
theorem MuAt.get (h:MuAt w b bP v s) (i:Nat):w.cell? ⟨b,i,none⟩=(muL bP s v)[i]?:=by rw [aA h.blk];simp
theorem MuAt.lt (h:MuAt w b bP v s):b<w.heap.size:=aH h.blk
theorem MuAt.frozen (h:MuAt w b bP v s) (i:Nat):w.frozen? ⟨b,i,none⟩=false:=aC h.blk i
theorem MuAt.ty (h:MuAt w b bP v s):v.ov.ownBlock≠some b/\v.nv.ownBlock≠some b/\v.lv.ownBlock≠some b/\v.bN≠b/\v.ov.ownBlock≠some v.bN/\v.nv.ownBlock≠some v.bN/\v.lv.ownBlock≠some v.bN:=by
 have hm:=h.nt.ty
 obtain⟨es,cl,hm⟩:=hm
 have key:∀ {V:Value} {l:List Nat},gN w V l->V.ownBlock≠some v.bN:=λhr e=>by
  obtain⟨cs,fz,h9⟩:=mQ hr e
  rw [hm] at h9;cases h9
 refine⟨oG h.old h.blk (by decide),oG h.now h.blk (by decide),oG h.lst h.blk (by decide),λe=>?_,key h.old,key h.now,key h.lst⟩
 have h9:=h.blk
 rw [<-e,hm] at h9;cases h9
theorem MuAt.low (h:MuAt w b bP v s):∀ j,MuB b v j->j<w.heap.size:=λj hj=>by
 rcases hj with rfl|rfl|e|e|e|e
 ·exact h.lt
 ·exact h.nt.lt
 ·exact h.old.lt j e
 ·exact h.now.lt j e
 ·exact(h.s3 j e).2.2
 ·exact h.lst.lt j e
theorem MuAt.chg {S:Nat->Prop} (h:MuAt w b bP v s) (hc:Chg S w w') (hn:∀ j,MuB b v j->¬ S j):MuAt w' b bP v s:=by
 obtain⟨a,c,hr,hrc,hs⟩:=h.rds
 exact⟨(hc.block _ h.lt (hn b (.inl rfl))).trans h.blk,h.old.chg hc (λg e=>hn g (.inr (.inr (.inl e)))),h.now.chg hc (λg e=>hn g (.inr (.inr (.inr (.inl e))))),h.lst.chg hc (λg e=>hn g (.inr (.inr (.inr (.inr (.inr e)))))),
  ⟨a,c,hr,hrc,hs.chg hc (λg o e=>hn g (.inr (.inr (.inr (.inr (.inl (by rw [hr,e];rfl)))))))⟩,h.nt.block (hc.block _ h.nt.lt (hn _ (.inr (.inl rfl)))),h.n16,h.nilO,h.nilR,h.s1,h.s2,λg e=>⟨(h.s3 g e).1,(h.s3 g e).2.1,Nat.lt_of_lt_of_le (h.s3 g e).2.2 hc.size⟩⟩
theorem MuAt.grown (h:MuAt w b bP v s) (hb:Below w.heap.size w w'):MuAt w' b bP v s:=h.chg (S:=noB) (Chg.of_below hb) (λ_ _ h=>h)
theorem MuAt.put (h:MuAt w b bP v s) (i:Nat) (x:Value) {s':MuD} (e:(muL bP s v).set i x=muL bP s' v) (h1:s'.old=s.old) (h2:s'.now=s.now) (h3:s'.list=s.list) (h4:s'.reads=s.reads) (h5:s'.noted=s.noted) (h6:s'.chosen=false->s.chosen=false):MuAt (w.setCell ⟨b,i,none⟩ x) b bP v s'/\gQ w (w.setCell ⟨b,i,none⟩ x) b v v:=by
 have hc:Chg (λj=>j=b) w (w.setCell ⟨b,i,none⟩ x):=(Chg.refl (λj=>j=b) w).setCell (p:=⟨b,i,none⟩) (.inl rfl) _
 obtain⟨t1,t2,t3,t4,_⟩:=h.ty
 obtain⟨a,c,hr,hrc,hs⟩:=h.rds
 refine⟨⟨?_,by rw [h1];exact h.old.chg hc (λg e9 e8=>t1 (by rw [<-e8];exact e9)),by rw [h2];exact h.now.chg hc (λg e9 e8=>t2 (by rw [<-e8];exact e9)),by rw [h3];exact h.lst.chg hc (λg e9 e8=>t3 (by rw [<-e8];exact e9)),⟨a,c,by rw [h4];exact hr,by rw [h4];exact hrc,by rw [h4];exact hs.chg hc (λg o e9=>(h.s3 g (by rw [hr,e9];rfl)).1)⟩,by rw [h5];exact h.nt.block (hc.block _ h.nt.lt t4),by rw [h5];exact h.n16,by rw [h1];exact h.nilO,λe9=>by rw [h4];exact h.nilR (h6 e9),h.s1,h.s2,λg e9=>⟨(h.s3 g e9).1,(h.s3 g e9).2.1,Nat.lt_of_lt_of_le (h.s3 g e9).2.2 hc.size⟩⟩,⟨hc.mono (λ_ _ e9=>.inl e9),λ_ h=>.inl h⟩⟩
 rw [aG h.blk,<-e];simp
theorem MuAt.addList {lv:Value} {l:List Nat} (h:MuAt w b bP v s) (hc:Chg (λg=>v.lv.ownBlock=some g) w w1) (hr:gN w1 lv l) (hg:∀ g,lv.ownBlock=some g->v.lv.ownBlock=some g∨w.heap.size<=g):MuAt (w1.setCell ⟨b,7,none⟩ lv) b bP { v with lv:=lv } { s with list:=l }/\gQ w (w1.setCell ⟨b,7,none⟩ lv) b v { v with lv:=lv }:=by
 obtain⟨t1,t2,t3,t4,t5,t6,t7⟩:=h.ty
 obtain⟨a,c,hrv,hrc,hs⟩:=h.rds
 have hc2:Chg (λg=>v.lv.ownBlock=some g∨g=b) w (w1.setCell ⟨b,7,none⟩ lv):=(hc.mono (λ_ _ e=>.inl e)).setCell (p:=⟨b,7,none⟩) (.inl (.inr rfl)) _
 have hb1:w1.heap[b]?=_:=(hc.block _ h.lt t3).trans h.blk
 have hcb:Chg (λg=>g=b) w1 (w1.setCell ⟨b,7,none⟩ lv):=(Chg.refl (λg=>g=b) w1).setCell (p:=⟨b,7,none⟩) (.inl rfl) _
 have low:=h.low
 refine⟨⟨?_,h.old.chg hc2 (λg e e9=>?_),h.now.chg hc2 (λg e e9=>?_),hr.chg hcb (λg e e9=>oG hr hb1 (by decide) (by rw [<-e9];exact e)),⟨a,c,hrv,hrc,hs.chg hc2 (λg o e e9=>?_)⟩,h.nt.block (hc2.block _ h.nt.lt (λe9=>?_)),h.n16,h.nilO,h.nilR,λg e=>⟨(h.s1 g e).1,λe9=>?_,(h.s1 g e).2.2⟩,λg e=>?_,λg e=>⟨(h.s3 g e).1,(h.s3 g e).2.1,Nat.lt_of_lt_of_le (h.s3 g e).2.2 hc2.size⟩⟩,⟨hc2.mono (λj _ e=>e.elim (λe=>.inr (.inr (.inr (.inr (.inr e))))) .inl),λj hj=>?_⟩⟩
 ·rw [aG hb1];rfl
 ·rcases e9 with e9|e9
  ·exact(h.s2 g e9).1 e
  ·exact t1 (by rw [<-e9];exact e)
 ·rcases e9 with e9|e9
  ·exact(h.s1 g e).2.1 e9
  ·exact t2 (by rw [<-e9];exact e)
 ·have ho:v.rv.ownBlock=some g:=by rw [hrv,e];rfl
  rcases e9 with e9|e9
  ·exact(h.s2 g e9).2 ho
  ·exact(h.s3 g ho).1 e9
 ·rcases e9 with e9|e9
  ·exact t7 e9
  ·exact t4 e9
 ·rcases hg g e9 with h9|h9
  ·exact(h.s1 g e).2.1 h9
  ·have:=low g (.inr (.inr (.inr (.inl e))));omega
 ·rcases hg g e with h9|h9
  ·exact h.s2 g h9
  ·exact⟨λe8=>by have:=low g (.inr (.inr (.inl e8)));omega,λe8=>by have:=low g (.inr (.inr (.inr (.inr (.inl e8)))));omega⟩
 ·rcases hj with e|e|e|e|e|e
  ·exact .inl (.inl e)
  ·exact .inl (.inr (.inl e))
  ·exact .inl (.inr (.inr (.inl e)))
  ·exact .inl (.inr (.inr (.inr (.inl e))))
  ·exact .inl (.inr (.inr (.inr (.inr (.inl e)))))
  ·exact(hg j e).imp_left (λh9=>.inr (.inr (.inr (.inr (.inr h9)))))
theorem MuAt.addNow {nv:Value} {l:List Nat} (h:MuAt w b bP v s) (hc:Chg (λg=>v.nv.ownBlock=some g) w w1) (hr:gN w1 nv l) (hg:∀ g,nv.ownBlock=some g->v.nv.ownBlock=some g∨w.heap.size<=g):MuAt (w1.setCell ⟨b,2,none⟩ nv) b bP { v with nv:=nv } { s with now:=l }/\gQ w (w1.setCell ⟨b,2,none⟩ nv) b v { v with nv:=nv }:=by
 obtain⟨t1,t2,t3,t4,t5,t6,t7⟩:=h.ty
 obtain⟨a,c,hrv,hrc,hs⟩:=h.rds
 have hc2:Chg (λg=>v.nv.ownBlock=some g∨g=b) w (w1.setCell ⟨b,2,none⟩ nv):=(hc.mono (λ_ _ e=>.inl e)).setCell (p:=⟨b,2,none⟩) (.inl (.inr rfl)) _
 have hb1:w1.heap[b]?=_:=(hc.block _ h.lt t2).trans h.blk
 have hcb:Chg (λg=>g=b) w1 (w1.setCell ⟨b,2,none⟩ nv):=(Chg.refl (λg=>g=b) w1).setCell (p:=⟨b,2,none⟩) (.inl rfl) _
 have low:=h.low
 refine⟨⟨?_,h.old.chg hc2 (λg e e9=>?_),hr.chg hcb (λg e e9=>oG hr hb1 (by decide) (by rw [<-e9];exact e)),h.lst.chg hc2 (λg e e9=>?_),⟨a,c,hrv,hrc,hs.chg hc2 (λg o e e9=>?_)⟩,h.nt.block (hc2.block _ h.nt.lt (λe9=>?_)),h.n16,h.nilO,h.nilR,λg e=>?_,h.s2,λg e=>⟨(h.s3 g e).1,(h.s3 g e).2.1,Nat.lt_of_lt_of_le (h.s3 g e).2.2 hc2.size⟩⟩,⟨hc2.mono (λj _ e=>e.elim (λe=>.inr (.inr (.inr (.inl e)))) .inl),λj hj=>?_⟩⟩
 ·rw [aG hb1];rfl
 ·rcases e9 with e9|e9
  ·exact(h.s1 g e9).1 e
  ·exact t1 (by rw [<-e9];exact e)
 ·rcases e9 with e9|e9
  ·exact(h.s1 g e9).2.1 e
  ·exact t3 (by rw [<-e9];exact e)
 ·have ho:v.rv.ownBlock=some g:=by rw [hrv,e];rfl
  rcases e9 with e9|e9
  ·exact(h.s1 g e9).2.2 ho
  ·exact(h.s3 g ho).1 e9
 ·rcases e9 with e9|e9
  ·exact t6 e9
  ·exact t4 e9
 ·rcases hg g e with h9|h9
  ·exact h.s1 g h9
  ·exact⟨λe8=>by have:=low g (.inr (.inr (.inl e8)));omega,λe8=>by have:=low g (.inr (.inr (.inr (.inr (.inr e8)))));omega,λe8=>by have:=low g (.inr (.inr (.inr (.inr (.inl e8)))));omega⟩
 ·rcases hj with e|e|e|e|e|e
  ·exact .inl (.inl e)
  ·exact .inl (.inr (.inl e))
  ·exact .inl (.inr (.inr (.inl e)))
  ·exact(hg j e).imp_left (λh9=>.inr (.inr (.inr (.inl h9))))
  ·exact .inl (.inr (.inr (.inr (.inr (.inl e)))))
  ·exact .inl (.inr (.inr (.inr (.inr (.inr e)))))
theorem MuAt.setReads (h:MuAt w b bP v s) {a:Option Addr} {c:Nat} {r:List Nat} (hch:s.chosen=true) (hc:r.length<=c) (hs:aW w a r.length 1 (qB r)) (ho:∀ g,(Value.slice a r.length c).ownBlock=some g->v.rv.ownBlock=some g):MuAt (w.setCell ⟨b,5,none⟩ (.slice a r.length c)) b bP { v with rv:=.slice a r.length c } { s with reads:=r }/\gQ w (w.setCell ⟨b,5,none⟩ (.slice a r.length c)) b v { v with rv:=.slice a r.length c }:=by
 obtain⟨t1,t2,t3,t4,t5,t6,t7⟩:=h.ty
 have hc2:Chg (λg=>g=b) w (w.setCell ⟨b,5,none⟩ (.slice a r.length c)):=(Chg.refl (λg=>g=b) w).setCell (p:=⟨b,5,none⟩) (.inl rfl) _
 refine⟨⟨?_,h.old.chg hc2 (λg e e9=>t1 (by rw [<-e9];exact e)),h.now.chg hc2 (λg e e9=>t2 (by rw [<-e9];exact e)),h.lst.chg hc2 (λg e e9=>t3 (by rw [<-e9];exact e)),⟨a,c,rfl,hc,hs.chg hc2 (λg o e e9=>(h.s3 g (ho g (by rw [e];rfl))).1 e9)⟩,h.nt.block (hc2.block _ h.nt.lt t4),h.n16,h.nilO,λe=>?_,λg e=>⟨(h.s1 g e).1,(h.s1 g e).2.1,λe9=>(h.s1 g e).2.2 (ho g e9)⟩,λg e=>⟨(h.s2 g e).1,λe9=>(h.s2 g e).2 (ho g e9)⟩,λg e=>⟨(h.s3 g (ho g e)).1,(h.s3 g (ho g e)).2.1,Nat.lt_of_lt_of_le (h.s3 g (ho g e)).2.2 hc2.size⟩⟩,⟨hc2.mono (λj _ e=>.inl e),λj hj=>.inl ?_⟩⟩
 ·rw [aG h.blk];rfl
 ·have e':s.chosen=false:=e
  rw [hch] at e';cases e'
 ·rcases hj with e|e|e|e|e|e
  ·exact .inl e
  ·exact .inr (.inl e)
  ·exact .inr (.inr (.inl e))
  ·exact .inr (.inr (.inr (.inl e)))
  ·exact .inr (.inr (.inr (.inr (.inl (ho j e)))))
  ·exact .inr (.inr (.inr (.inr (.inr e))))
theorem uC {w:World} {g off x:Nat} {r:List Nat} (h:aW w (some ⟨g,off,none⟩) (x::r).length 1 (qB (x::r))):aW w (some ⟨g,off+1,none⟩) r.length 1 (qB r):=by
 refine⟨Nat.le_trans (Nat.le_succ _) h.1,λj hj=>?_⟩
 obtain⟨b,o,e,hb,hc⟩:=h.2 (j+1) (Nat.succ_lt_succ hj)
 cases e
 refine⟨g,off+1,rfl,hb,λf hf=>?_⟩
 have h9:=hc f hf
 rw [show off+((j+1)*1+f)=off+1+(j*1+f) by omega] at h9
 exact h9
end
end
section
open Go.RowKit
def jM (n m q bU:Nat):Array Value:=#[.int .i64 0,.int .i64 (n:Int),.int .i64 (m:Int),.int .i64 (q:Int),.map (some bU)]
theorem AJ (bP n m q bU a:Nat) (hm:1<=m) (dF:m<=16) (hq:1<=q) (dQ:q<=64) (ha:m<=a) (ZU:a<=1000000) (w:World) (hP:w.heap[bP]?=some (.cells (jM n m q bU) 89 (0,0))) :
  Calls Try.prog 128 #[.pointer (some ⟨bP,0,none⟩),.int .u64 (a:Int)] w λe w'=>e=.returned (.int .i64 ((aX m q a:Nat):Int))/\Below w.heap.size w w':=by
 have c0:w.cell? ⟨bP,0,none⟩=some (.int .i64 0):=by rw [aA hP];rfl
 have c2:w.cell? ⟨bP,2,none⟩=some (.int .i64 (m:Int)):=by rw [aA hP];rfl
 have c3:w.cell? ⟨bP,3,none⟩=some (.int .i64 (q:Int)):=by rw [aA hP];rfl
 obtain⟨d,hd⟩:∃ d,d=a - m:=⟨_,rfl⟩
 obtain⟨M,hM⟩:∃ M,M=(m+1)*q:=⟨_,rfl⟩
 have hM1:M<=17*64:=by rw [hM];exact Nat.mul_le_mul (by omega) dQ
 have hM0:0<M:=by rw [hM];exact Nat.mul_pos (by omega) (by omega)
 have eM:((m:Int)+1)*(q:Int)=(M:Int):=by rw [hM];simp
 obtain⟨x,hx⟩:∃ x,x=aX m q a:=⟨_,rfl⟩
 have hx2:x=d / M:=by rw [hx,hd,hM];rfl
 rw [<-hx]
 have hx3:x<=d:=by rw [hx2];exact Nat.div_le_self _ _
 have w0:IntKind.i64.wrap (a:Int)=(a:Int):=by rw [IntKind.wrap_i64];omega
 have w1:IntKind.i64.wrap ((a:Int) - (m:Int))=(d:Int):=by rw [IntKind.wrap_i64];omega
 have w2:IntKind.i64.wrap ((m:Int)+1)=(m:Int)+1:=by rw [IntKind.wrap_i64];omega
 have w3:IntKind.i64.wrap (((m:Int)+1)*(q:Int))=(M:Int):=by rw [eM,IntKind.wrap_i64];omega
 have e1:(d:Int).tdiv (M:Int)=(x:Int):=by rw [hx2,Int.tdiv_eq_ediv_of_nonneg (by omega)];rfl
 have e2:(d:Int) / (M:Int)=(x:Int):=by rw [hx2];rfl
 have w4:IntKind.i64.wrap (x:Int)=(x:Int):=by rw [IntKind.wrap_i64];omega
 have e3:¬ (M:Int)=0:=by omega
 have e4:((M:Int) == 0)=false:=by simp;omega
 clear hP hd hM hx hx2 hx3 eM hM1 hM0 hm dF hq dQ ha ZU
 go_enter Try.func128,Try.ntmps128
 go_wp2_with fail
 go_quiet (fail)
 go_wp2
 go_ret
 exact⟨rfl,below_drewN (Gr.refl w) nq⟩
theorem BU (bP n m q bU t r:Nat) (dF:m<=16) (dQ:q<=64) (ht:t<16) (hr:r<=64) (w:World) (hP:w.heap[bP]?=some (.cells (jM n m q bU) 89 (0,0))) :
  Calls Try.prog 130 #[.pointer (some ⟨bP,0,none⟩),.int .i64 (t:Int),.int .i64 (r:Int)] w λe w'=>e=.returned (.int .i64 ((bI m q t r:Nat):Int))/\Below w.heap.size w w':=by
 have c0:w.cell? ⟨bP,0,none⟩=some (.int .i64 0):=by rw [aA hP];rfl
 have c2:w.cell? ⟨bP,2,none⟩=some (.int .i64 (m:Int)):=by rw [aA hP];rfl
 have c3:w.cell? ⟨bP,3,none⟩=some (.int .i64 (q:Int)):=by rw [aA hP];rfl
 obtain⟨d,hd⟩:∃ d:Nat,d=t*q:=⟨_,rfl⟩
 have hd1:d<=1024:=by rw [hd];have:=Nat.mul_le_mul (show t<=16 by omega) dQ;omega
 have ed:(t:Int)*(q:Int)=(d:Int):=by rw [hd];simp
 obtain⟨x,hx⟩:∃ x:Nat,x=(d+r)*(m+1):=⟨_,rfl⟩
 have hx1:x<=100000:=by rw [hx];have:=Nat.mul_le_mul (show d+r<=1088 by omega) (show m+1<=17 by omega);omega
 have eq:((d:Int)+(r:Int))*((m:Int)+1)=(x:Int):=by rw [hx];simp
 have w2:IntKind.i64.wrap ((t:Int)*(q:Int))=(d:Int):=by rw [ed,IntKind.wrap_i64];omega
 have w3:IntKind.i64.wrap ((d:Int)+(r:Int))=(d:Int)+(r:Int):=by rw [IntKind.wrap_i64];omega
 have w4:IntKind.i64.wrap ((m:Int)+1)=(m:Int)+1:=by rw [IntKind.wrap_i64];omega
 have w5:IntKind.i64.wrap (((d:Int)+(r:Int))*((m:Int)+1))=(x:Int):=by rw [eq,IntKind.wrap_i64];omega
 have w6:IntKind.i64.wrap ((m:Int)+(x:Int))=(m:Int)+(x:Int):=by rw [IntKind.wrap_i64];omega
 have w0:IntKind.i64.wrap (m:Int)=(m:Int):=by rw [IntKind.wrap_i64];omega
 have E:=Lib.hid (show((bI m q t r:Nat):Int)=(m:Int)+(x:Int) by unfold bI;rw [<-hd,<-hx];omega)
 rw [E.out]
 clear hP hd hd1 ed hx hx1 eq dF dQ ht hr
 go_enter Try.func130,Try.ntmps130
 go_wp2_with fail
 go_quiet (fail)
 go_wp2
 go_ret
 exact⟨rfl,below_drewN (Gr.refl w) nq⟩
def nD (w w':World) (b bP:Nat) (v:MuV) (s:MuD) (e:Ending):Prop:=e=.returned (.tuple #[])/\∃ v',MuAt w' b bP v' s/\gQ w w' b v v'
def rdM (b:Nat) (w:World):Nat:=match w.cell? ⟨b,5,none⟩ with|some (.slice _ n _)=>n|_=>0
theorem AZ {s:MuD} (h:s.reads=[]):gH s=s:=by
 unfold gH;rw [h];show({ s with reads:=[],list:=s.list }:MuD)=s;rw [<-h]
theorem FK {s:MuD} {x:Nat} {r:List Nat} (h:s.reads=x::r) (hx:x≠0):gH s=s:=by
 unfold gH
 rw [h]
 have e:eF (x::r) s.list=(x::r,s.list):=by
  cases x with
  | zero=>exact absurd rfl hx
  | succ x=>rfl
 rw [e,<-h]
theorem CJ {s:MuD} {r:List Nat} (h:s.reads=0::r):gH s=gH { s with reads:=r,list:=s.list++[0] }:=by
 unfold gH;rw [h];rfl
set_option maxHeartbeats 8000000 in
theorem tC (w:World) (b bP:Nat) (v:MuV) (s:MuD) (h:MuAt w b bP v s) (hch:s.chosen=true) (hl:s.reads.length+s.list.length<=1000) :
  Calls Try.prog 171 #[.pointer (some ⟨b,0,none⟩)] w λe w'=>nD w w' b bP v (gH s) e:=by
 obtain⟨S,hS⟩:∃ S,S=gH s:=⟨_,rfl⟩
 rw [<-hS]
 have HS:=Lib.hid hS;have HM:=Lib.hid h;have HL:=Lib.hid hl;have HC:=Lib.hid hch
 clear hS h hl hch
 go_enter Try.func171,Try.ntmps171
 go_wp2_with fail
 go_loopw [] (λwr=>∃(v1:MuV) (s1:MuD),MuAt wr b bP v1 s1/\gQ w wr b v v1/\S=gH s1/\s1.reads.length+s1.list.length<=1000/\s1.chosen=true) (λwr=>rdM b wr)
 case atStart=>exact⟨v,s,HM.out,gQ.refl _ _ _,HS.out,HL.out,HC.out⟩
 case round=>
  obtain⟨v1,s1,hM,hto,hs,hl,hch⟩:=hrel
  clear HM HS HL HC
  obtain⟨a,c,hrv,hrc,hsl⟩:=hM.rds
  have y5:wr.cell? ⟨b,5,none⟩=some (.slice a s1.reads.length c):=(hM.get 5).trans (by rw [<-hrv];rfl)
  obtain⟨R,hR⟩:∃ R,R=s1.reads.length:=⟨_,rfl⟩
  rw [<-hR] at y5
  cases hrd:s1.reads with
  | nil=>
   have F:nD w wr b bP v S (.returned (.tuple #[])):=⟨rfl,v1,by rw [hs,AZ hrd];exact hM,hto⟩
   have HF:=Lib.hid F
   rw [hrd] at hR
   have hR0:R=0:=hR
   subst hR0
   clear F hM hto hs hl hrv hsl hrd hR hch
   go_wp2
   (first|go_end0|((try simp only [Exit.inBlock,Exit.then]);refine bodyPost_ret (results_none rfl _ _ _) rfl ?_))
   exact HF.out
  | cons x r=>
   have hR1:R=r.length+1:=by rw [hR,hrd];rfl
   have l1:(0:Int)<(R:Int):=by omega
   obtain⟨g,off,rfl,hg,hcell⟩:=hsl.2 0 (by rw [<-hR];omega)
   have y6:wr.cell? ⟨g,off,none⟩=some (.int .i64 (x:Int)):=by
    have h9:=hcell 0 (by omega)
    rw [Nat.mul_one,Nat.add_zero] at h9
    rw [h9,hrd];rfl
   by_cases hx:x=0
   ·subst hx
    have hM2:=hM
    obtain⟨la,lc,hlv⟩:=hM.lst.form
    obtain⟨LN,hLN⟩:∃ LN,LN=s1.list.length:=⟨_,rfl⟩
    rw [<-hLN] at hlv
    have y7:wr.cell? ⟨b,7,none⟩=some (.slice la LN lc):=(hM.get 7).trans (by rw [<-hlv];rfl)
    have f7:=hM.frozen 7
    have lb:=hM.lt
    have hrow:wr.ownsRow 0 40 1 (.slice la LN lc) LN (s1.list.map cZ):=by have h9:=hM.lst;rw [hlv] at h9;rw [hLN] at h9 ⊢;exact h9
    have hL9:LN<=1000000:=by omega
    have ADD:=Lib.hid (λ(g vc M:Nat) (u:World) (hM9:M=LN+1) (hown:u.ownsRow 0 40 1 (.slice (some ⟨g,0,none⟩) M vc) M ((s1.list++[0]).map cZ)) (JN:Chg (λb=>(Value.slice la LN lc).ownBlock=some b) (wr.alloc (.cells #[.int .u64 0] 40)) u) (hat:(Value.slice la LN lc).ownBlock=some g∨g=(wr.alloc (.cells #[.int .u64 0] 40)).heap.size)=>
     hM.addList (w1:=u) (lv:=.slice (some ⟨g,0,none⟩) M vc) (l:=s1.list++[0]) (by rw [hlv];exact((Chg.refl _ wr).alloc _).trans JN) (by show World.ownsRow _ 0 _ 1 _ (s1.list++[0]).length _;rw [List.length_append,List.length_singleton,<-hLN,<-hM9];exact hown) (λj e=>by
      have e':g=j:=Option.some.inj e
      rw [<-e',hlv]
      exact hat.imp_right (λh9=>by rw [h9];simp)))
    have NB:=Lib.hid (λj (e:(Value.slice la LN lc).ownBlock=some j)=>(show j≠b from λe9=>hM.ty.2.2.1 (by rw [hlv,e,e9])))
    have Y5:=Lib.hid y5
    have HR5:=Lib.hid (show(muL bP s1 v1)[5]?=some (.slice (some ⟨g,off,none⟩) R c) by rw [hR,<-hrv];rfl);have Hrc:=Lib.hid hrc;have Hsl:=Lib.hid hsl;have HRe:=Lib.hid hR;have Hrv:=Lib.hid hrv
    have HBk:=Lib.hid hM.blk;have HTo:=Lib.hid hto;have HLN:=Lib.hid hLN;have Hrow:=Lib.hid hrow;have Hrd:=Lib.hid hrd;have Hs:=Lib.hid hs;have Hl:=Lib.hid hl;have HR1:=Lib.hid hR1;have Hch:=Lib.hid hch
    clear hM hM2 hto hs hl hrv hsl hrd hR hcell hR1 hch hlv hLN hrow
    go_upto_region 2 with(at_builtin;refine rY rfl _ _ rfl _ s1.list LN HLN.out hL9 rfl (gK Hrow.out (Gr.new _ _)) wr.heap.size 0 rfl (heap_alloc_new _ _) ?_;intro g7 MN M w7 hM7 rM dZ zS LX;obtain⟨A7,T7⟩:=ADD.out g7 MN M w7 hM7 rM dZ zS;have HA7:=Lib.hid A7;have HT7:=Lib.hid T7;have t7:w7.cell? ⟨b,7,none⟩=some (.slice la LN lc):=(aJ (((Chg.refl _ wr).alloc _).trans dZ) (λe=>NB.out b e rfl) y7);have tf:w7.frozen? ⟨b,7,none⟩=false:=aC (((((Chg.refl _ wr).alloc _).trans dZ).block b lb (λe=>NB.out b e rfl)).trans HBk.out) _;have tl:b<w7.heap.size:=Nat.lt_of_lt_of_le lb (((Chg.refl _ wr).alloc _).trans dZ).size;have HM7:=Lib.hid hM7;clear A7 T7 hM7)
    obtain⟨w8,hw8⟩:∃ w8,w8=w7.setCell ⟨b,7,none⟩ (.slice (some ⟨g7,0,none⟩) M MN):=⟨_,rfl⟩
    rw [<-hw8]
    rw [<-hw8] at HA7 HT7
    have y5':w8.cell? ⟨b,5,none⟩=some (.slice (some ⟨g,off,none⟩) R c):=HA7.out.get 5 |>.trans HR5.out
    have f5:=HA7.out.frozen 5
    have l5:=HA7.out.lt
    clear hw8 t7 tf tl rM dZ zS LX y7 f7 y5 y6 lb
    have l4:(1:Int)<=(R:Int):=by omega
    go_wp2
    have hMu:MuAt (w8.setCell ⟨b,5,none⟩ (.slice (if c=1 then some ⟨g,off,none⟩ else some ⟨g,off+1,none⟩) (R - 1) (c - 1))) b bP { v1 with lv:=.slice (some ⟨g7,0,none⟩) M MN,rv:=.slice (if c=1 then some ⟨g,off,none⟩ else some ⟨g,off+1,none⟩) (R - 1) (c - 1) } { s1 with list:=s1.list++[0],reads:=r }/\gQ w8 (w8.setCell ⟨b,5,none⟩ (.slice (if c=1 then some ⟨g,off,none⟩ else some ⟨g,off+1,none⟩) (R - 1) (c - 1))) b { v1 with lv:=.slice (some ⟨g7,0,none⟩) M MN } { v1 with lv:=.slice (some ⟨g7,0,none⟩) M MN,rv:=.slice (if c=1 then some ⟨g,off,none⟩ else some ⟨g,off+1,none⟩) (R - 1) (c - 1) }:=by
     have hrl:r.length=R - 1:=by have:=HR1.out;omega
     have hcl:=Hrc.out
     rw [Hrd.out] at hcl
     simp only [List.length_cons] at hcl
     have hsl:=HA7.out.rds
     obtain⟨a9,c9,e9,_,QJ⟩:=hsl
     have e8:(Value.slice a9 s1.reads.length c9)=.slice (some ⟨g,off,none⟩) s1.reads.length c:=e9.symm.trans Hrv.out
     cases e8
     have RL:aW w8 (some ⟨g,off,none⟩) (0::r).length 1 (qB (0::r)):=by rw [<-Hrd.out];exact QJ
     have h9:=HA7.out.setReads (a:=if c=1 then some ⟨g,off,none⟩ else some ⟨g,off+1,none⟩) (c:=c - 1) (r:=r) Hch.out (by omega) (by
      split
      ·rename_i hc1
       have hr0:r=[]:=List.eq_nil_of_length_eq_zero (by omega)
       subst hr0
       exact aW.nil _ _ _ _
      ·exact uC RL) (λj e=>by
      show v1.rv.ownBlock=some j
      rw [Hrv.out]
      split at e<;>exact e)
     rw [hrl] at h9
     exact h9
    refine⟨⟨_,_,hMu.1,(HTo.out.trans HT7.out).trans hMu.2,?_,?_,Hch.out⟩,?_⟩
    ·rw [Hs.out,CJ Hrd.out]
    ·have h8:=Hl.out
     rw [Hrd.out] at h8
     simp only [List.length_cons] at h8
     show r.length+(s1.list++[0]).length<=1000
     rw [List.length_append,List.length_singleton]
     omega
    ·have e1:rdM b (w8.setCell ⟨b,5,none⟩ (.slice (if c=1 then some ⟨g,off,none⟩ else some ⟨g,off+1,none⟩) (R - 1) (c - 1)))=R - 1:=by
      unfold rdM
      rw [aA hMu.1.blk];rfl
     have e2:rdM b wr=R:=by
      unfold rdM
      rw [Y5.out]
     rw [e1,e2];omega
   ·have F:nD w wr b bP v S (.returned (.tuple #[])):=⟨rfl,v1,by rw [hs,FK hrd hx];exact hM,hto⟩
    have HF:=Lib.hid F
    have l2:((x:Int) == 0)=false:=by simp;omega
    have l3:¬ (x:Int)=0:=by omega
    clear F hM hto hs hl hrv hsl hrd hR hcell hR1 hx hch
    go_wp2
    (first|go_end0|((try simp only [Exit.inBlock,Exit.then]);refine bodyPost_ret (results_none rfl _ _ _) rfl ?_))
    exact HF.out
end
end Go.Proofs.Ytifhldnmcdbpfaa
