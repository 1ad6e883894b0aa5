/- Layer 6: the order of keys, in plain lists. -/
import Derived.Test.YteffgpcjfnjlkaaGreatJ28
import Derived.Test.YteffgpcjfnjlkaaGreatJ16
import Derived.Test.YteffgpcjfnjlkaaGreatJ20
set_option maxRecDepth 100000
set_option linter.unusedVariables false
set_option linter.unusedSimpArgs false
set_option linter.unnecessarySimpa false
namespace Go.Proofs.YteffgpcjfnjlkaaGreat
section
open Go.RowKit
def keyLt : List Int → List Int → Bool
  | [], [] => false
  | [], _ :: _ => true
  | _ :: _, [] => false
  | a :: l1, b :: l2 => if a = b then keyLt l1 l2 else decide (a < b)
theorem keyLt_irrefl : ∀ a, keyLt a a = false
  | [] => rfl
  | a :: l1 => by unfold keyLt; rw [if_pos rfl]; exact keyLt_irrefl l1
theorem keyLt_trans : ∀ a b c, keyLt a b = true → keyLt b c = true → keyLt a c = true
  | [], [], _, h, _ => by simp [keyLt] at h
  | [], _ :: _, [], _, h => by simp [keyLt] at h
  | [], _ :: _, _ :: _, _, _ => rfl
  | _ :: _, [], _, h, _ => by simp [keyLt] at h
  | _ :: _, _ :: _, [], _, h => by simp [keyLt] at h
  | a :: l1, b :: l2, c :: l3, h, k => by
    unfold keyLt at h k ⊢
    by_cases h1 : a = b
    · subst h1
      rw [if_pos rfl] at h
      by_cases h2 : a = c
      · rw [if_pos h2] at k ⊢; exact keyLt_trans l1 l2 l3 h k
      · rw [if_neg h2] at k ⊢; exact k
    · rw [if_neg h1] at h
      have h' : a < b := of_decide_eq_true h
      by_cases h2 : b = c
      · subst h2; rw [if_neg h1]; exact h
      · rw [if_neg h2] at k
        have k' : b < c := of_decide_eq_true k
        rw [if_neg (by omega)]; exact decide_eq_true (by omega)
theorem keyLt_tri : ∀ a b, keyLt a b = true ∨ a = b ∨ keyLt b a = true
  | [], [] => .inr (.inl rfl)
  | [], _ :: _ => .inl rfl
  | _ :: _, [] => .inr (.inr rfl)
  | a :: l1, b :: l2 => by
    unfold keyLt
    by_cases h : a = b
    · subst h
      simp only [if_true]
      rcases keyLt_tri l1 l2 with h | h | h
      · exact .inl h
      · exact .inr (.inl (by rw [h]))
      · exact .inr (.inr h)
    · rw [if_neg h, if_neg (Ne.symm h)]
      rcases Int.lt_or_gt_of_ne h with h1 | h1
      · exact .inl (decide_eq_true h1)
      · exact .inr (.inr (decide_eq_true h1))
def kAt (evs : List EvD) (i : Nat) : List Int := (evAt evs i).key
def evLt (evs : List EvD) (i j : Nat) : Prop := keyLt (kAt evs i) (kAt evs j) = true ∨ (kAt evs i = kAt evs j ∧ i < j)
theorem evLt_irrefl (evs : List EvD) (i : Nat) : ¬ evLt evs i i := by
  rintro (h | h)
  · rw [keyLt_irrefl] at h; cases h
  · omega
theorem evLt_trans {evs : List EvD} {i j k : Nat} (h : evLt evs i j) (g : evLt evs j k) : evLt evs i k := by
  rcases h with h | ⟨h, h'⟩ <;> rcases g with g | ⟨g, g'⟩
  · exact .inl (keyLt_trans _ _ _ h g)
  · exact .inl (by rw [← g]; exact h)
  · exact .inl (by rw [h]; exact g)
  · exact .inr ⟨h.trans g, by omega⟩
theorem evLt_tri (evs : List EvD) (i j : Nat) : evLt evs i j ∨ i = j ∨ evLt evs j i := by
  rcases keyLt_tri (kAt evs i) (kAt evs j) with h | h | h
  · exact .inl (.inl h)
  · rcases Nat.lt_trichotomy i j with g | g | g
    · exact .inl (.inr ⟨h, g⟩)
    · exact .inr (.inl g)
    · exact .inr (.inr (.inr ⟨h.symm, g⟩))
  · exact .inr (.inr (.inl h))
theorem sorted_unique {α : Type} {R : α → α → Prop} (hirr : ∀ a, ¬ R a a) (htr : ∀ a b c, R a b → R b c → R a c) : ∀ {l m : List α}, l.Pairwise R → m.Pairwise R → (∀ x, x ∈ l ↔ x ∈ m) → l = m
  | [], [], _, _, _ => rfl
  | [], b :: m, _, _, h => absurd ((h b).2 (by simp)) (by simp)
  | a :: l, [], _, _, h => absurd ((h a).1 (by simp)) (by simp)
  | a :: l, b :: m, hl, hm, h => by
    rw [List.pairwise_cons] at hl hm
    have hab : a = b := by
      have ha : a ∈ b :: m := (h a).1 (by simp)
      have hb : b ∈ a :: l := (h b).2 (by simp)
      simp only [List.mem_cons] at ha hb
      rcases ha with ha | ha
      · exact ha
      · rcases hb with hb | hb
        · exact hb.symm
        · exact absurd (htr _ _ _ (hl.1 b hb) (hm.1 a ha)) (hirr a)
    subst hab
    have hal : a ∉ l := fun hx => hirr a (hl.1 a hx)
    have ham : a ∉ m := fun hx => hirr a (hm.1 a hx)
    rw [sorted_unique hirr htr hl.2 hm.2 (fun x => ?_)]
    have hx := h x
    simp only [List.mem_cons] at hx
    constructor
    · intro hxl
      rcases hx.1 (.inr hxl) with e | e
      · exact absurd (e ▸ hxl) hal
      · exact e
    · intro hxm
      rcases hx.2 (.inr hxm) with e | e
      · exact absurd (e ▸ hxm) ham
      · exact e
def insAt (evs : List EvD) (out : List Nat) (i : Nat) : Nat → Nat
  | 0 => 0
  | k + 1 => if keyLt (kAt evs i) (kAt evs (out.getD k 0)) then insAt evs out i k else k + 1
theorem insAt_le (evs : List EvD) (out : List Nat) (i : Nat) : ∀ k, insAt evs out i k ≤ k
  | 0 => Nat.le_refl _
  | k + 1 => by unfold insAt; split; exact Nat.le_succ_of_le (insAt_le evs out i k); exact Nat.le_refl _
def insK (evs : List EvD) (out : List Nat) (i : Nat) : List Nat := out.take (insAt evs out i out.length) ++ i :: out.drop (insAt evs out i out.length)
def orderK (evs : List EvD) : Nat → List Nat
  | 0 => []
  | i + 1 => if kAt evs i = [] then orderK evs i else insK evs (orderK evs i) i
def orderD (evs : List EvD) : List Nat := orderK evs evs.length
theorem insAt_spec {evs : List EvD} {out : List Nat} {i : Nat} : ∀ k, k ≤ out.length → (∀ j, insAt evs out i k ≤ j → j < k → keyLt (kAt evs i) (kAt evs (out.getD j 0)) = true) ∧ (0 < insAt evs out i k → keyLt (kAt evs i) (kAt evs (out.getD (insAt evs out i k - 1) 0)) = false)
  | 0, _ => ⟨fun j _ h => by omega, fun h => by simp [insAt] at h⟩
  | k + 1, hk => by
    unfold insAt
    by_cases h : keyLt (kAt evs i) (kAt evs (out.getD k 0)) = true
    · rw [if_pos h]
      obtain ⟨a, b⟩ := insAt_spec (evs := evs) (out := out) (i := i) k (by omega)
      refine ⟨fun j h1 h2 => ?_, b⟩
      by_cases hj : j = k
      · rw [hj]; exact h
      · exact a j h1 (by omega)
    · rw [if_neg h]
      exact ⟨fun j h1 h2 => by omega, fun _ => by simpa using h⟩
theorem insK_mem {evs : List EvD} {out : List Nat} {i x : Nat} : x ∈ insK evs out i ↔ x = i ∨ x ∈ out := by
  unfold insK
  rw [List.mem_append, List.mem_cons]
  constructor
  · rintro (h | h | h)
    · exact .inr (List.mem_of_mem_take h)
    · exact .inl h
    · exact .inr (List.mem_of_mem_drop h)
  · rintro (h | h)
    · exact .inr (.inl h)
    · rw [← List.take_append_drop (insAt evs out i out.length) out, List.mem_append] at h
      rcases h with h | h
      · exact .inl h
      · exact .inr (.inr h)
theorem insK_sorted {evs : List EvD} {out : List Nat} {i : Nat} (h : out.Pairwise (evLt evs)) (hi : ∀ x ∈ out, x < i) : (insK evs out i).Pairwise (evLt evs) := by
  obtain ⟨k, hk⟩ : ∃ k, k = insAt evs out i out.length := ⟨_, rfl⟩
  obtain ⟨s1, s2⟩ := insAt_spec (evs := evs) (out := out) (i := i) out.length (Nat.le_refl _)
  have hle := insAt_le evs out i out.length
  unfold insK
  rw [← hk] at s1 s2 hle ⊢
  have hsp := h
  rw [← List.take_append_drop k out, List.pairwise_append] at hsp
  obtain ⟨a1, a2, a3⟩ := hsp
  have hpre : ∀ x ∈ out.take k, evLt evs x i := by
    intro x hx
    have hk0 : 0 < k := by
      rcases Nat.eq_zero_or_pos k with h0 | h0
      · rw [h0] at hx; simp at hx
      · exact h0
    have hb := s2 hk0
    have hlast : out.getD (k - 1) 0 ∈ out := by rw [List.getD_eq_getElem?_getD, List.getElem?_eq_getElem (by omega)]; exact List.getElem_mem _
    have hlt : evLt evs (out.getD (k - 1) 0) i := by
      rcases evLt_tri evs (out.getD (k - 1) 0) i with h1 | h1 | h1
      · exact h1
      · have := hi _ hlast; omega
      · rcases h1 with h1 | ⟨_, h1⟩
        · rw [hb] at h1; cases h1
        · have := hi _ hlast; omega
    obtain ⟨j, hj, rfl⟩ := List.mem_iff_getElem.1 hx
    have hj' : j < k := by simp at hj; omega
    rw [List.getElem_take]
    by_cases hjk : j = k - 1
    · subst hjk
      rw [List.getD_eq_getElem?_getD, List.getElem?_eq_getElem (by omega)] at hlt
      exact hlt
    · refine evLt_trans ?_ hlt
      rw [List.getD_eq_getElem?_getD, List.getElem?_eq_getElem (by omega)]
      exact List.pairwise_iff_getElem.1 h j (k - 1) (by omega) (by omega) (by omega)
  have hpost : ∀ x ∈ out.drop k, evLt evs i x := by
    intro x hx
    obtain ⟨j, hj, rfl⟩ := List.mem_iff_getElem.1 hx
    rw [List.getElem_drop]
    have hj' : k + j < out.length := by simp at hj; omega
    have := s1 (k + j) (by omega) hj'
    rw [List.getD_eq_getElem?_getD, List.getElem?_eq_getElem hj'] at this
    exact .inl this
  rw [List.pairwise_append, List.pairwise_cons]
  refine ⟨a1, ⟨hpost, a2⟩, fun x hx y hy => ?_⟩
  simp only [List.mem_cons] at hy
  rcases hy with rfl | hy
  · exact hpre x hx
  · exact a3 x hx y hy
theorem orderK_spec (evs : List EvD) : ∀ k, (orderK evs k).Pairwise (evLt evs) ∧ (∀ x, x ∈ orderK evs k ↔ x < k ∧ kAt evs x ≠ [])
  | 0 => ⟨List.Pairwise.nil, fun x => by simp [orderK]⟩
  | k + 1 => by
    obtain ⟨h1, h2⟩ := orderK_spec evs k
    unfold orderK
    by_cases h : kAt evs k = []
    · rw [if_pos h]
      refine ⟨h1, fun x => ?_⟩
      rw [h2]
      constructor
      · rintro ⟨a, b⟩; exact ⟨by omega, b⟩
      · rintro ⟨a, b⟩
        refine ⟨?_, b⟩
        have : x ≠ k := by rintro rfl; exact b h
        omega
    · rw [if_neg h]
      refine ⟨insK_sorted h1 (fun x hx => ((h2 x).1 hx).1), fun x => ?_⟩
      rw [insK_mem, h2]
      constructor
      · rintro (rfl | ⟨a, b⟩)
        · exact ⟨by omega, h⟩
        · exact ⟨by omega, b⟩
      · rintro ⟨a, b⟩
        by_cases hx : x = k
        · exact .inl hx
        · exact .inr ⟨by omega, b⟩
theorem orderD_eq {evs : List EvD} {L : List Nat} (h : L.Pairwise (evLt evs)) (hm : ∀ x, x ∈ L ↔ x < evs.length ∧ kAt evs x ≠ []) : orderD evs = L :=
  sorted_unique (evLt_irrefl evs) (fun _ _ _ => evLt_trans) (orderK_spec evs evs.length).1 h (fun x => ((orderK_spec evs evs.length).2 x).trans (hm x).symm)
def Fold (ap : List Nat → CallD → List Nat × AnsD) (calls : List CallD) (evs : List EvD) : List Nat → List Nat → Prop
  | _, [] => True
  | st, i :: l =>
    if (calls.getD (evAt evs i).call d0).obj ≠ 0 then ((evAt evs i).resp ≠ 0 → (evAt evs i).ans = ⟨12, 0, []⟩) ∧ Fold ap calls evs st l
    else ((evAt evs i).resp ≠ 0 → (evAt evs i).ans = (ap st (calls.getD (evAt evs i).call d0)).2) ∧ Fold ap calls evs (ap st (calls.getD (evAt evs i).call d0)).1 l
def foldTo (ap : List Nat → CallD → List Nat × AnsD) (calls : List CallD) (evs : List EvD) : List Nat → List Nat → List Nat
  | st, [] => st
  | st, i :: l => foldTo ap calls evs (if (calls.getD (evAt evs i).call d0).obj ≠ 0 then st else (ap st (calls.getD (evAt evs i).call d0)).1) l
theorem fold_append {ap : List Nat → CallD → List Nat × AnsD} {calls : List CallD} {evs : List EvD} : ∀ {l m st : List Nat}, Fold ap calls evs st (l ++ m) ↔ Fold ap calls evs st l ∧ Fold ap calls evs (foldTo ap calls evs st l) m
  | [], m, st => by simp [Fold, foldTo]
  | i :: l, m, st => by
    simp only [List.cons_append, Fold, foldTo]
    split
    · rw [fold_append, and_assoc]
    · rw [fold_append, and_assoc]
theorem foldTo_append {ap : List Nat → CallD → List Nat × AnsD} {calls : List CallD} {evs : List EvD} : ∀ {l m st : List Nat}, foldTo ap calls evs st (l ++ m) = foldTo ap calls evs (foldTo ap calls evs st l) m
  | [], _, _ => rfl
  | i :: l, m, st => by simp only [List.cons_append, foldTo]; exact foldTo_append
theorem fold_congr {ap : List Nat → CallD → List Nat × AnsD} {calls : List CallD} {evs evs' : List EvD} : ∀ {l st : List Nat}, (∀ i ∈ l, (evAt evs' i).call = (evAt evs i).call ∧ ((evAt evs' i).resp ≠ 0 → (evAt evs i).resp ≠ 0 ∧ (evAt evs' i).ans = (evAt evs i).ans)) → Fold ap calls evs st l → Fold ap calls evs' st l
  | [], _, _, _ => trivial
  | i :: l, st, h, hf => by
    obtain ⟨h1, h2⟩ := h i (by simp)
    unfold Fold at hf ⊢
    rw [h1]
    split
    · rename_i ho
      rw [if_pos ho] at hf
      exact ⟨fun hr => by rw [(h2 hr).2]; exact hf.1 (h2 hr).1, fold_congr (fun j hj => h j (by simp [hj])) hf.2⟩
    · rename_i ho
      rw [if_neg ho] at hf
      exact ⟨fun hr => by rw [(h2 hr).2]; exact hf.1 (h2 hr).1, fold_congr (fun j hj => h j (by simp [hj])) hf.2⟩
theorem foldTo_congr {ap : List Nat → CallD → List Nat × AnsD} {calls : List CallD} {evs evs' : List EvD} : ∀ {l st : List Nat}, (∀ i ∈ l, (evAt evs' i).call = (evAt evs i).call) → foldTo ap calls evs' st l = foldTo ap calls evs st l
  | [], _, _ => rfl
  | i :: l, st, h => by
    unfold foldTo
    rw [h i (by simp), foldTo_congr (fun j hj => h j (by simp [hj]))]
end
section

/- Layer 9: adder.Play. -/
open Go.RowKit
theorem adder_new (w : World) : Calls Tryz.prog 39 #[.int .i64 0] w fun e w' => e = .returned (.agg #[.int .i64 0]) ∧ Below w.heap.size w w' := by
  go_enter Tryz.func39, Tryz.ntmps39
  go_wp2
  exact bodyPost_ret (v := .agg #[.int .i64 0]) (by simp [results, Tryz.results39 , go_sem]) rfl ⟨rfl, Gr.new _ _⟩
abbrev adderS : Sys := onceSys adderRef adderAct
abbrev adderR : Real adderS := onceReal adderRef adderAct adderCap 71 (.agg #[.int .i64 0])
theorem adder_ok : RealOk adderR := once_real_ok adder_capgo adder_start (fun c wd => by unfold adderAct; split <;> rfl) (fun c wd => by unfold adderAct; split; exact memRead_cnt _ _; exact memAdd_cnt _ _ _)
set_option maxHeartbeats 4000000 in
theorem adderPlay_any (X : Nat → Prop) (w : World) (n : Int) (calls : List CallD) (picks : List Int) (ca pa : Option Addr) (cc pc : Nat) (hX : ∀ b, X b → b < w.heap.size) (hc : CallsAt X w ca calls) (hp : PicksAt w pa picks) :
    Calls Tryz.prog 21 #[.int .i64 n, .slice ca calls.length cc, .slice pa picks.length pc] w fun e w' => PlayRet X w w' (checkN n calls picks.length) (playD adderS () [0] calls picks) e := by
  obtain ⟨wa, hwa⟩ : ∃ wa, wa = w.alloc (.cells #[.slice none 0 0, .slice none 0 0, .int .i64 0, .int .i64 0, .int .i64 0, .int .i64 0, .int .i64 0, .int .i64 0, .int .i64 0] 32) := ⟨_, rfl⟩
  have hga : Below w.heap.size w wa := by rw [hwa]; exact Gr.new _ _
  have hra : wa.heap[w.heap.size]? = some (.cells #[.slice none 0 0, .slice none 0 0, .int .i64 0, .int .i64 0, .int .i64 0, .int .i64 0, .int .i64 0, .int .i64 0, .int .i64 0] 32 (0, 0)) := by rw [hwa]; exact heap_alloc_new _ _
  have hsa : w.heap.size < wa.heap.size := by rw [hwa]; simp
  have Hwa := Lib.hid hwa; have Hga := Lib.hid hga; have Hra := Lib.hid hra
  have P := Lib.hid (fun (u : World) (bo bw : Nat) (hu : Below wa.heap.size wa u) (h1 : u.cell? ⟨bo, 0, none⟩ = some (.iface 71 (.agg #[.int .i64 0]))) (h2 : u.cell? ⟨bw, 0, none⟩ = some (.int .u64 0)) (hbo : wa.heap.size ≤ bo) =>
    (play_any (X := fun b => X b ∨ b = w.heap.size) (R := adderR) adder_ok once_nolate (Nat.zero_le _) u () n calls [0] picks (.slice (some ⟨bo, 0, none⟩) 1 1) (.slice ca calls.length cc) (.slice (some ⟨bw, 0, none⟩) 1 1) pa pc
      ⟨⟨ca, cc, rfl, hc.sl.grown (Gr.trans hga hu), fun hl b off e hx => by
        rcases hx with hx | hx
        · exact hc.nx hl b off e hx
        · obtain ⟨b0, off0, e0, hb0⟩ := hc.sl.lt hl
          rw [e0] at e; cases e; omega⟩, hc.ok, ⟨bo, 0, 1, rfl, h1, fun hx => by rcases hx with hx | hx; have := hX bo hx; omega; omega⟩, ⟨_, 1, rfl, slOne h2, fun e => by cases e⟩, by simp, by simp, fun b hb => hb, fun _ _ => trivial, trivial, fun b hx => by have := hu.size; rcases hx with hx | hx; have := hX b hx; omega; omega⟩ (hp.sl.grown (Gr.trans hga hu)) hp.ok (fun _ _ _ _ _ => safe_of (fun _ _ _ _ => trivial) _ _ _)).mono (fun e w' h => (⟨PlayTo.ret h, hu⟩ : PlayRet (fun b => X b ∨ b = w.heap.size) u w' (checkN n calls picks.length) (playD adderS () [0] calls picks) e ∧ Below wa.heap.size wa u)))
  have N := Lib.hid (fun (u : World) (h : Below wa.heap.size wa u) => (adder_new u).mono (fun e w' h' => (⟨h'.1, Gr.trans h h'.2, (fun p hp => h'.2.cell hp), h'.2.size⟩ : e = .returned (.agg #[.int .i64 0]) ∧ Below wa.heap.size wa w' ∧ (∀ p : Addr, p.block < u.heap.size → w'.cell? p = u.cell? p) ∧ u.heap.size ≤ w'.heap.size)))
  have hmk := make_one
  obtain ⟨er, her⟩ : ∃ er, er = checkN n calls picks.length := ⟨_, rfl⟩
  obtain ⟨rr, hrr⟩ : ∃ rr, rr = playD adderS () [0] calls picks := ⟨_, rfl⟩
  rw [← her, ← hrr] at P ⊢
  clear hc hp hwa hga hra her hrr
  go_enter Tryz.func21, Tryz.ntmps21
  go_wp2_with fail
  rw [← Hwa.out]
  go_region_held3 (fun u => True)
    (exact True.intro)
    (first | (go_at_call 39; refine (N.out _ ?_).mono ?_; (first | exact (Gr.refl _).drew | exact Gr.alloc (Gr.refl _).drew _); rintro e w1 ⟨rfl, hb1, hk1⟩) | (go_at_call 32; refine (P.out _ _ _ ?_ ?_ ?_ ?_).mono ?_; (first | with_reducible exact Gr.alloc (Gr.alloc hb1 _) _ | with_reducible exact Gr.alloc hb1 _); (first | with_reducible exact objs_cell _ _ _ _ | exact cell_new2 _ _ _ _ _ (by simp) | with_reducible exact cell_new1 _ _ _); (first | with_reducible exact made_cell _ _ _ (by simp) | with_reducible exact made_cell2 _ _ | exact made_cell3 hk1.1 _ _ (by simp) hk1.2); (have := hb1.size; simp; omega); rintro e w4 ⟨⟨ea, en, ec, va, vn, vc, rp, rfl, hrest⟩, hu⟩; have hr4 := (hrest.1.block w.heap.size (by have := hu.size; omega)).trans ((hu.block w.heap.size (by omega)).trans Hra.out); obtain ⟨cs, w7, hcs, hsz, hst, hbk7, hch7⟩ := rep_store w4 w.heap.size (.slice ea en ec) (.slice va vn vc) rp hr4 rfl rfl; rw [hcs]; have Hcs := Lib.hid hcs; have Hbk7 := Lib.hid hbk7; have Hch7 := Lib.hid hch7; have Hrest := Lib.hid hrest; have Hu := Lib.hid hu; clear hr4 hrest hu hb1 hk1 hcs hbk7 hch7))
  all_goals
    go_wp2
    have hld := rep_load w7 w.heap.size cs Hbk7.out hsz
    refine bodyPost_ret (v := .tuple #[.agg cs, .int .i64 er]) (by simp [results, Tryz.results21 , Sem.run_bind, Sem.run_pure, asAddr, hld]) rfl ?_
    refine ⟨ea, en, ec, va, vn, vc, rp, by rw [Hcs.out], PlayRest.chg Hrest.out Hch7.out (fun b hb => ?_) (Gr.trans Hga.out Hu.out) (fun b hb => .inl hb)⟩
    have hb' : b = w.heap.size := hb
    exact ⟨.inr hb', by omega, by have := Hu.out.size; omega⟩
end
section

/- Layer 9: tickets, in plain numbers. -/
open Go.RowKit
structure TkInv (st : PlayD adderS) (k : Nat) : Prop where
  h16 : st.hands.length = 16
  none_ : ∀ p, (st.hands.getD p (none, 0)).1 = none
  now : st.wd.now = st.evs.length
  ws : st.wd.mem.ws = [st.evs.length]
  evs : ∀ i, i < st.evs.length → (st.evs.getD i ev0).ans.val = i ∧ (st.evs.getD i ev0).resp = i + 1
  len : st.evs.length ≤ k
end
section

/- Layer 9: the walk of AdderTickets. -/
open Go.RowKit
theorem RepAt.event {X : Nat → Prop} {B : Nat} {w : World} {ea : Option Addr} {en ec : Nat} {wv : Value} {ers : List (Value × Value)} {r : RepD} (h : RepAt X B w (.slice ea en ec) wv ers r) (hn : en = r.evs.length) (h0 : 0 < en) :
    ∃ g, ea = some ⟨g, 0, none⟩ ∧ g < w.heap.size ∧ ∀ i f, i < en → f < 8 → w.cell? ⟨g, i * 8 + f, none⟩ = (evCells (r.evs.getD i ev0) (ers.getD i vv0))[f]? := by
  obtain ⟨g, c, h1, h2, h3⟩ := h.row.form (by omega)
  simp only [Value.slice.injEq] at h1
  obtain ⟨rfl, h4, h5⟩ := h1
  refine ⟨g, rfl, h3, fun i f hi hf => ?_⟩
  have hr := h.row
  rw [← hn] at hr
  rw [hr.cellAt _ (by omega), evRow_get _ _ _ _ h.elen.symm (by omega) hf]
theorem RepAt.word {X : Nat → Prop} {B : Nat} {w : World} {ev : Value} {va : Option Addr} {vn vc : Nat} {ers : List (Value × Value)} {r : RepD} (h : RepAt X B w ev (.slice va vn vc) ers r) (hn : vn = r.words.length) (h0 : 0 < vn) :
    ∃ q, va = some ⟨q, 0, none⟩ ∧ q < w.heap.size ∧ ∀ j, j < vn → w.cell? ⟨q, j, none⟩ = some (.int .u64 ((r.words.getD j 0 : Nat) : Int)) := by
  obtain ⟨g, c, h1, h2, h3⟩ := h.words.form (by omega)
  simp only [Value.slice.injEq] at h1
  obtain ⟨rfl, h4, h5⟩ := h1
  refine ⟨g, rfl, h3, fun j hj => ?_⟩
  have hr := h.words
  rw [← hn] at hr
  rw [hr.cellAt _ (by omega)]
  simp [u64V, List.getD_eq_getElem?_getD, show j < r.words.length by omega]
def callL (c : CallD) : List Value := [.int .i64 c.thread, .int .i64 c.obj, .int .i64 c.kind, .int .u64 (c.a : Int), .int .u64 (c.b : Int), .int .u64 (c.c : Int)]
theorem callL_get : ∀ (l : List CallD) (j f : Nat), j < l.length → f < 6 → (l.flatMap callL)[j * 6 + f]? = some (callG l j f)
  | [], j, _, h, _ => by simp at h
  | c :: l, 0, f, _, hf => by
    simp only [List.flatMap_cons, Nat.zero_mul, Nat.zero_add]
    rw [List.getElem?_append_left (by simpa [callL] using hf)]
    match f, hf with
    | 0, _ => rfl
    | 1, _ => rfl
    | 2, _ => rfl
    | 3, _ => rfl
    | 4, _ => rfl
    | 5, _ => rfl
  | c :: l, j + 1, f, h, hf => by
    simp only [List.flatMap_cons]
    rw [List.getElem?_append_right (by simp [callL]; omega), show (j + 1) * 6 + f - (callL c).length = j * 6 + f by simp [callL]; omega, callL_get l j f (by simpa using h) hf]
    simp [callG]
theorem calls_block {w : World} {b : Nat} {l : List CallD} {fz : Nat × Nat} (h : w.heap[b]? = some (.cells (l.flatMap callL).toArray 48 fz)) (hl : l.length ≤ 1000000) : SlAt w (some ⟨b, 0, none⟩) l.length 6 (callG l) := by
  refine ⟨by unfold maxLen; omega, fun j hj => ⟨b, 0, rfl, blk_lt h, fun f hf => ?_⟩⟩
  rw [Nat.zero_add, cell_blk h]
  simpa using callL_get l j f hj hf
theorem ints_block {w : World} {b : Nat} {l : List Int} {fz : Nat × Nat} (h : w.heap[b]? = some (.cells (l.map (Value.int .i64)).toArray 3 fz)) (hl : l.length ≤ 1000000) : SlAt w (some ⟨b, 0, none⟩) l.length 1 (intG l) := by
  refine ⟨by unfold maxLen; omega, fun j hj => ⟨b, 0, rfl, blk_lt h, fun f hf => ?_⟩⟩
  obtain rfl : f = 0 := by omega
  rw [cell_blk h]
  simp [intG, List.getD_eq_getElem?_getD, hj]
def twoCalls9 : List CallD := [⟨0, 0, 2, 0, 0, 0⟩, ⟨1, 0, 2, 0, 0, 0⟩]
theorem two_rep9 : playD adderS () [0] twoCalls9 [1, 0] = ⟨[⟨1, 1, 1, 1, ⟨0, 0, []⟩, [2]⟩, ⟨0, 2, 2, 1, ⟨0, 1, []⟩, [4]⟩], [2], ⟨0, 0, 0, 2, 0⟩, 2, 0⟩ := by rfl
theorem two_check9 : checkN 2 twoCalls9 2 = 0 := by rfl
theorem callOk_small {t k : Int} (h1 : 0 ≤ t) (h2 : t < 16) (h3 : 0 ≤ k) (h4 : k < 16) {a b c : Nat} (ha : a < 100) (hb : b < 100) (hc : c < 100) : CallOk ⟨t, 0, k, a, b, c⟩ :=
  ⟨by simp [Lit.wf, IntKind.min, IntKind.max, IntKind.signed, IntKind.bits]; omega, by rfl, by simp [Lit.wf, IntKind.min, IntKind.max, IntKind.signed, IntKind.bits]; omega, by simp only; omega, by simp only; omega, by simp only; omega⟩
set_option maxHeartbeats 4000000 in
theorem adder_two (w : World) : Calls Tryz.prog 20 #[] w fun e w' => e = .returned (.bool true) ∧ Below w.heap.size w w' := by
  obtain ⟨wa, hwa⟩ : ∃ wa, wa = (w.alloc (.cells #[.int .i64 0, .int .i64 0, .int .i64 2, .int .u64 0, .int .u64 0, .int .u64 0, .int .i64 1, .int .i64 0, .int .i64 2, .int .u64 0, .int .u64 0, .int .u64 0] 48)).alloc (.cells #[.int .i64 1, .int .i64 0] 3) := ⟨_, rfl⟩
  have hga : Below w.heap.size w wa := by rw [hwa]; exact Gr.alloc (Gr.new _ _) _
  have h1 : wa.heap[w.heap.size]? = some (.cells (twoCalls9.flatMap callL).toArray 48 (0, 0)) := by rw [hwa, Below.heap_alloc _ _ _ (by simp), heap_alloc_new]; rfl
  have h2 : wa.heap[w.heap.size + 1]? = some (.cells (([1, 0] : List Int).map (Value.int .i64)).toArray 3 (0, 0)) := by
    rw [hwa]
    have := heap_alloc_new (w.alloc (.cells #[.int .i64 0, .int .i64 0, .int .i64 2, .int .u64 0, .int .u64 0, .int .u64 0, .int .i64 1, .int .i64 0, .int .i64 2, .int .u64 0, .int .u64 0, .int .u64 0] 48)) (.cells #[.int .i64 1, .int .i64 0] 3 (0, 0))
    simp only [World.size_alloc] at this
    exact this
  have P := adderPlay_any noB wa 2 twoCalls9 [1, 0] (some ⟨w.heap.size, 0, none⟩) (some ⟨w.heap.size + 1, 0, none⟩) 2 2 (fun b hb => hb.elim) ⟨calls_block h1 (by decide), (by
      intro x hx
      simp only [twoCalls9, List.mem_cons, List.not_mem_nil, or_false] at hx
      rcases hx with rfl | rfl <;> exact callOk_small (by decide) (by decide) (by decide) (by decide) (by decide) (by decide) (by decide)), fun _ _ _ _ h => h⟩ ⟨ints_block h2 (by decide), by intro x hx; simp only [List.mem_cons, List.not_mem_nil, or_false] at hx; rcases hx with rfl | rfl <;> rfl⟩
  rw [show ([1, 0] : List Int).length = 2 from rfl, two_check9, two_rep9, show twoCalls9.length = 2 from rfl] at P
  have HP := Lib.hid P; have Hwa := Lib.hid hwa; have Hga := Lib.hid hga
  clear P h1 h2 hwa hga
  go_enter Tryz.func20, Tryz.ntmps20
  go_wp2_with fail
  rw [← Hwa.out]
  refine HP.out.mono ?_
  rintro e w1 ⟨ea, en, ec, va, vn, vc, rp, rfl, hb, hr⟩
  rcases hr with ⟨h0, _⟩ | ⟨_, hrp, hen, hvn, ers, hrep⟩
  · exact absurd rfl h0
  obtain ⟨g, rfl, hg, hev⟩ := hrep.event hen (by rw [hen]; decide)
  obtain ⟨q, rfl, hq, hwd⟩ := hrep.word hvn (by rw [hvn]; decide)
  have hen2 : en = 2 := hen
  have hvn2 : vn = 1 := hvn
  subst hen2 hvn2 hrp
  have c0 : w1.cell? ⟨g, 0, none⟩ = some (.int .i64 1) := hev 0 0 (by omega) (by omega)
  have c5 : w1.cell? ⟨g, 5, none⟩ = some (.int .u64 0) := hev 0 5 (by omega) (by omega)
  have c13 : w1.cell? ⟨g, 13, none⟩ = some (.int .u64 1) := hev 1 5 (by omega) (by omega)
  have d0 : w1.cell? ⟨q, 0, none⟩ = some (.int .u64 2) := hwd 0 (by omega)
  have Hb := Lib.hid hb
  clear hrep hev hwd hb hen hvn
  unfold repV
  go_wp2
  go_ret
  exact ⟨rfl, Gr.trans Hga.out (Gr.trans Hb.out (Gr.new _ _))⟩
end
section

/- Layer 6: the order of keys: the walks of ahead, Order. -/
open Go.RowKit
end
section

/- Layer 7: the walk of ConsAgrees. -/
open Go.RowKit
def manyB (l p : Nat) : Bool := decide ((60 < l ∧ l ≤ 1000) ∨ (600 < p ∧ p ≤ 65536) ∨ 1100 < l)
theorem many_any (ca pa : Option Addr) (l p cc pc : Nat) (w : World) (hl : l ≤ maxLen) (hp : p ≤ maxLen) :
    Calls Tryz.prog 11 #[.slice ca l cc, .slice pa p pc] w fun e w' => e = .returned (.bool (manyB l p)) ∧ w = w' := by
  unfold maxLen at hl hp
  obtain ⟨b, hb⟩ : ∃ b, b = manyB l p := ⟨_, rfl⟩
  rw [← hb]
  by_cases h1 : (60 : Int) < (l : Int) <;> by_cases h2 : (l : Int) ≤ 1000 <;> by_cases h3 : (600 : Int) < (p : Int) <;> by_cases h4 : (p : Int) ≤ 65536 <;> by_cases h5 : (1100 : Int) < (l : Int)
  all_goals first | (exfalso; omega) | skip
  all_goals
    have hv : b = decide ((60 < l ∧ l ≤ 1000) ∨ (600 < p ∧ p ≤ 65536) ∨ 1100 < l) := hb
    first
      | (have hb2 : b = true := by rw [hv]; simp; omega
         subst hb2; clear hb hv
         go_enter Tryz.func11, Tryz.ntmps11
         go_wp2
         go_ret
         exact ⟨rfl, rfl⟩)
      | (have hb2 : b = false := by rw [hv]; simp; omega
         subst hb2; clear hb hv
         go_enter Tryz.func11, Tryz.ntmps11
         go_wp2
         go_ret
         exact ⟨rfl, rfl⟩)
end
end Go.Proofs.YteffgpcjfnjlkaaGreat
