/- A reference's play under way: an event's cells are written. -/
import Derived.Test.YtfkokppncipgnaaGreatV24
import Derived.Test.YtfkokppncipgnaaGreatV11
set_option maxRecDepth 100000
set_option linter.unusedVariables false
set_option linter.unusedSimpArgs false
set_option linter.unnecessarySimpa false
namespace Go.Proofs.YtfkokppncipgnaaGreat
open Go.RowKit
variable {w0 w w':World} {J:RJ} {s s':RefS} {hl hl':List Value} {vs vs':List HV} {G K L:Value} {ea ea':Option Addr} {ec ec':Nat} {ers ers':List (Value×Value)} {p:Nat} {t:TapeP} {r:RWD}
theorem LogM.grown (h:LogM w0 w J p s hl vs G K L ea ec ers t r) (hb:Below w.heap.size w w'):LogM w0 w' J p s hl vs G K L ea ec ers t r:=⟨(h.tape.grown hb).1,h.rest.grown hb,h.hp,h.opn,h.thr,h.inv,h.ge⟩
theorem LogM.ev_some (h:LogM w0 w J p s hl vs G K L ea ec ers t r) {k:Nat} (hk:k<s.evs.length):∃ g,ea=some ⟨g,0,none⟩/\g<w.heap.size/\∀ f,f<8->w.cell? ⟨g,k*8+f,none⟩=(evCells (s.evs.getD k ev0) (ers.getD k vv0))[f]?/\w.frozen? ⟨g,k*8+f,none⟩=false:=by
 obtain⟨g,c,h1,h2,h3⟩:=h.rest.evs.form (by omega)
 simp only [Value.slice.injEq] at h1
 obtain⟨rfl,_,_⟩:=h1
 have hr:=h.rest.evs
 obtain⟨_,_,hty⟩:=row_type hr (b:=g) rfl
 exact⟨g,rfl,blk_lt hty,λf hf=>⟨by rw [hr.cellAt _ (by omega),evRow_get _ _ _ _ h.rest.lens.2.2.2.symm hk hf],hr.frozenAt _⟩⟩
theorem LogM.store (h:LogM w0 w J p s hl vs G K L ea ec ers t r) {k f g:Nat} {u:Value} {e':EvD} {v':Value×Value} (hk:k<s.evs.length) (hev:ea=some ⟨g,0,none⟩) (hf:f<8) (hs:(evCells (s.evs.getD k ev0) (ers.getD k vv0)).set f u=evCells e' v')
  (hl9:LstU w (RMut (rids J p hl vs (.slice ea s.evs.length ec)) G K L) v'.1 e'.ans.list) (hkk:Lst w (RMut (rids J p hl vs (.slice ea s.evs.length ec)) G K L) v'.2 e'.key) :
  LogM w0 (w.setCell ⟨g,k*8+f,none⟩ u) J p { s with evs:=s.evs.set k e' } hl vs G K L ea ec (ers.set k v') t r:=by
 subst hev
 have hc:Chg (λb=>b=g) w (w.setCell ⟨g,k*8+f,none⟩ u):=(Chg.refl (λb=>b=g) w).setCell (p:=⟨g,k*8+f,none⟩) (.inl rfl) _
 have hM:∀ b,b=g->RMut (rids J p hl vs (.slice (some ⟨g,0,none⟩) s.evs.length ec)) G K L b:=λb e=>.inr (.inr (.inr (.inl (by rw [e];rfl))))
 have hel:=h.rest.lens.2.2.2
 refine h.evs hc (λb e=>by rw [e];rfl) (s.evs.set k e') (by simp) (by simpa using hel) ?_ (λi hi=>?_)
 ·rw [<-evRow_set _ _ _ _ u _ _ hel.symm hk hf hs]
  exact(h.rest.evs.stored _ _).1
 ·by_cases e:k=i
  ·subst e
   rw [getD_set_eq (by omega),getD_set_eq hk]
   exact⟨hl9.keep hc hM (MutUp.refl _ _),hkk.keep hc hM (MutUp.refl _ _)⟩
  ·rw [getD_set_neq e,getD_set_neq e]
   have hi':i<s.evs.length:=by simpa using hi
   exact⟨(h.rest.lie i hi').1.keep hc hM (MutUp.refl _ _),(h.rest.lie i hi').2.keep hc hM (MutUp.refl _ _)⟩
theorem LogM.stepped (h:LogM w0 w J p s hl vs G K L ea ec ers t r) {k g:Nat} (hk:k<s.evs.length) (hev:ea=some ⟨g,0,none⟩) :
  LogM w0 (w.setCell ⟨g,k*8+3,none⟩ (.int .i64 (((s.evs.getD k ev0).steps:Int)+1))) J p { s with evs:=modEv s.evs k stepEv } hl vs G K L ea ec (ers.set k (ers.getD k vv0)) t r:=by
 have hli:=h.rest.lie k hk
 have hs:∀(e:EvD) (v:Value×Value),(evCells e v).set 3 (.int .i64 ((e.steps:Int)+1))=evCells (stepEv e) v:=λe v=>by
  unfold evCells stepEv natV
  simp
 have h9:=h.store (k:=k) (f:=3) (g:=g) (u:=.int .i64 (((s.evs.getD k ev0).steps:Int)+1)) (e':=stepEv (s.evs.getD k ev0)) (v':=ers.getD k vv0) hk hev (by omega) (hs _ _) hli.1 hli.2
 exact h9
set_option maxHeartbeats 400000 in
theorem LogM.done8 (h:LogM w0 w J p s hl vs G K L ea ec ers t r) {k g la' lc:Nat} {la:Option Addr} {kv:Value} (hk:k<s.evs.length) (hev:ea=some ⟨g,0,none⟩) (hLV:LstU w (RMut (rids J p hl vs (.slice ea s.evs.length ec)) G K L) (.slice la t.list.length lc) t.list) (hKV:Lst w (RMut (rids J p hl vs (.slice ea s.evs.length ec)) G K L) kv (rkey r p t.key)) :
  ∃ ers',LogM w0 ((((((((w.setCell ⟨g,k*8,none⟩ (natV (s.evs.getD k ev0).call)).setCell ⟨g,k*8+1,none⟩ (natV (s.evs.getD k ev0).inv)).setCell ⟨g,k*8+2,none⟩ (natV r.now)).setCell ⟨g,k*8+3,none⟩ (natV (s.evs.getD k ev0).steps)).setCell ⟨g,k*8+4,none⟩ (.int .i64 t.err)).setCell ⟨g,k*8+5,none⟩ (.int .u64 (t.val:Int))).setCell ⟨g,k*8+6,none⟩ (.slice la t.list.length lc)).setCell ⟨g,k*8+7,none⟩ kv) J p
   { s with evs:=modEv s.evs k (rdone r p t) } hl vs G K L ea ec ers' t r:=by
 obtain⟨e,he⟩:∃ e,e=s.evs.getD k ev0:=⟨_,rfl⟩
 obtain⟨v,hv⟩:∃ v,v=ers.getD k vv0:=⟨_,rfl⟩
 have hkr:k<ers.length:=by rw [h.rest.lens.2.2.2];exact hk
 have hli:=h.rest.lie k hk
 rw [<-he,<-hv] at hli
 subst hev
 have hcS:∀(u:World) (f:Nat) (x:Value),Chg (λb=>b=g) u (u.setCell ⟨g,k*8+f,none⟩ x):=λu f x=>(Chg.refl (λb=>b=g) u).setCell (p:=⟨g,k*8+f,none⟩) (.inl rfl) _
 have hM:∀ b,b=g->RMut (rids J p hl vs (.slice (some ⟨g,0,none⟩) s.evs.length ec)) G K L b:=λb e=>.inr (.inr (.inr (.inl (by rw [e];rfl))))
 have keep:∀(u:World),Chg (λb=>b=g) w u->LstU u (RMut (rids J p hl vs (.slice (some ⟨g,0,none⟩) s.evs.length ec)) G K L) v.1 e.ans.list/\Lst u (RMut (rids J p hl vs (.slice (some ⟨g,0,none⟩) s.evs.length ec)) G K L) v.2 e.key/\LstU u (RMut (rids J p hl vs (.slice (some ⟨g,0,none⟩) s.evs.length ec)) G K L) (.slice la t.list.length lc) t.list/\Lst u (RMut (rids J p hl vs (.slice (some ⟨g,0,none⟩) s.evs.length ec)) G K L) kv (rkey r p t.key):=λu hu=>
  ⟨hli.1.keep hu hM (MutUp.refl _ _),hli.2.keep hu hM (MutUp.refl _ _),hLV.keep hu hM (MutUp.refl _ _),hKV.keep hu hM (MutUp.refl _ _)⟩
 have st:∀(u:World) (es:List EvD) (rs:List (Value×Value)) (f:Nat) (x:Value) (e1 e2:EvD) (v1 v2:Value×Value),es.length=s.evs.length->LogM w0 u J p { s with evs:=es.set k e1 } hl vs G K L (some ⟨g,0,none⟩) ec (rs.set k v1) t r->k<es.length->k<rs.length->f<8->(evCells e1 v1).set f x=evCells e2 v2->
   LstU u (RMut (rids J p hl vs (.slice (some ⟨g,0,none⟩) s.evs.length ec)) G K L) v2.1 e2.ans.list->Lst u (RMut (rids J p hl vs (.slice (some ⟨g,0,none⟩) s.evs.length ec)) G K L) v2.2 e2.key->LogM w0 (u.setCell ⟨g,k*8+f,none⟩ x) J p { s with evs:=es.set k e2 } hl vs G K L (some ⟨g,0,none⟩) ec (rs.set k v2) t r:=λu es rs f x e1 e2 v1 v2 hes hm hke hkr hf hs h1 h2=>by
  have h9:=hm.store (k:=k) (f:=f) (g:=g) (u:=x) (e':=e2) (v':=v2) (by simpa using hke) rfl hf (by rw [getD_set_eq hke,getD_set_eq hkr];exact hs) (by simp only [List.length_set,hes];exact h1) (by simp only [List.length_set,hes];exact h2)
  simp only [List.set_set] at h9
  exact h9
 have h0:LogM w0 w J p { s with evs:=s.evs.set k e } hl vs G K L (some ⟨g,0,none⟩) ec (ers.set k v) t r:=by
  have e1:s.evs.set k e=s.evs:=by rw [he,List.getD_eq_getElem?_getD,List.getElem?_eq_getElem hk];simp
  have e2:ers.set k v=ers:=by rw [hv,List.getD_eq_getElem?_getD,List.getElem?_eq_getElem hkr];simp
  rw [e1,e2];exact h
 have hm:modEv s.evs k (rdone r p t)=s.evs.set k (rdone r p t e):=by rw [he];rfl
 rw [<-he,hm]
 have k0:=keep w (Chg.refl _ _)
 have h1:=st _ _ _ 0 (natV e.call) e e v v rfl h0 hk hkr (by omega) rfl k0.1 k0.2.1
 have c1:=hcS w 0 (natV e.call)
 have h2:=st _ _ _ 1 (natV e.inv) e e v v rfl h1 hk hkr (by omega) rfl (keep _ c1).1 (keep _ c1).2.1
 have c2:=c1.trans (hcS _ 1 (natV e.inv))
 have h3:=st _ _ _ 2 (natV r.now) e { e with resp:=r.now } v v rfl h2 hk hkr (by omega) rfl (keep _ c2).1 (keep _ c2).2.1
 have c3:=c2.trans (hcS _ 2 (natV r.now))
 have h4:=st _ _ _ 3 (natV e.steps) { e with resp:=r.now } { e with resp:=r.now } v v rfl h3 hk hkr (by omega) rfl (keep _ c3).1 (keep _ c3).2.1
 have c4:=c3.trans (hcS _ 3 (natV e.steps))
 have h5:=st _ _ _ 4 (.int .i64 t.err) { e with resp:=r.now } { e with resp:=r.now,ans:=⟨t.err,e.ans.val,e.ans.list⟩ } v v rfl h4 hk hkr (by omega) rfl (keep _ c4).1 (keep _ c4).2.1
 have c5:=c4.trans (hcS _ 4 (.int .i64 t.err))
 have h6:=st _ _ _ 5 (.int .u64 (t.val:Int)) { e with resp:=r.now,ans:=⟨t.err,e.ans.val,e.ans.list⟩ } { e with resp:=r.now,ans:=⟨t.err,t.val,e.ans.list⟩ } v v rfl h5 hk hkr (by omega) rfl (keep _ c5).1 (keep _ c5).2.1
 have c6:=c5.trans (hcS _ 5 (.int .u64 (t.val:Int)))
 have h7:=st _ _ _ 6 (.slice la t.list.length lc) { e with resp:=r.now,ans:=⟨t.err,t.val,e.ans.list⟩ } { e with resp:=r.now,ans:=⟨t.err,t.val,t.list⟩ } v (.slice la t.list.length lc,v.2) rfl h6 hk hkr (by omega) rfl (keep _ c6).2.2.1 (keep _ c6).2.1
 have c7:=c6.trans (hcS _ 6 (.slice la t.list.length lc))
 have h8:=st _ _ _ 7 kv { e with resp:=r.now,ans:=⟨t.err,t.val,t.list⟩ } (rdone r p t e) (.slice la t.list.length lc,v.2) (.slice la t.list.length lc,kv) rfl h7 hk hkr (by omega) rfl (keep _ c7).2.2.1 (keep _ c7).2.2.2
 simp only [Nat.add_zero] at h8
 exact⟨_,h8⟩
end Go.Proofs.YtfkokppncipgnaaGreat
