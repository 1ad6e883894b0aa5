/- Layer 5: the reference's contracts, and what a line is behind New. -/
import Derived.Test.YtajlceknahngkaaPickB
import Derived.Deep.QuietTactic
import Derived.BigQuiet
set_option maxRecDepth 100000
namespace Go.Proofs.Ytajlceknahngkaa
open Go.RowKit

theorem row_cap {w : World} {B : Nat} {v : Value} {e : TypeId} {n : Nat} {xs : List Value} {g : Nat → Nat → Value} (h : w.ownsRow B e 1 v n xs) (hm : n ≤ maxLen) (hg : ∀ j, j < n → xs[j]? = some (g j 0)) :
    ∃ a c, v = .slice a n c ∧ n ≤ c ∧ SlAt w a n 1 g ∧ (∀ b off, a = some ⟨b, off, none⟩ → B ≤ b ∧ v.ownBlock = some b) := by
  obtain ⟨a, c, hv, hs, hB⟩ := sl_of_row h hm hg
  refine ⟨a, c, hv, ?_, hs, fun b off e => ⟨hB b off e, by rw [hv, e]; rfl⟩⟩
  obtain ⟨_, h2⟩ := h
  rcases h2 with ⟨h3, h0⟩ | ⟨q, cap, cur, h3, _, _, hn, _⟩
  · omega
  · rw [hv] at h3; cases h3; exact hn

theorem ret_i64 {a b : Int} (h : a = b) : Ending.returned (.int .i64 a) = .returned (.int .i64 b) := by rw [h]

theorem line_of_new {w wr : World} {l : List CallD} {M : Int → Value} (h : NewSt w wr l l.length M) (hl : l.length ≤ 1000) :
    LineAt wr wr.heap.size (w.heap.size + 1) w.heap.size l.length M (qOf l l.length) (l.length : Int) := by
  refine ⟨h.line, h.map, fun p => ?_⟩
  have hq := qOf_len l l.length p
  obtain ⟨a, c, h1, h2, h3, h4⟩ := row_cap (g := natG (qOf l l.length p)) (h.rows p) (by unfold maxLen; omega) (fun j hj => by simp [natG, natV, List.getD_eq_getElem?_getD, hj])
  refine ⟨a, c, h1, h2, h3, fun b off e => ?_⟩
  have h5 := (h4 b off e).2
  obtain ⟨_, h6⟩ := h.rows p
  rcases h6 with ⟨h7, _⟩ | ⟨g, cap, cur, h7, _, h8, _⟩
  · rw [h7] at h5; cases h5
  · rw [h7] at h5
    simp only [Value.ownBlock, Option.some.injEq] at h5
    subst h5
    refine ⟨?_, ?_, blk_lt h8⟩
    · rintro rfl; rw [h.line] at h8; simp at h8
    · rintro rfl
      obtain ⟨D, ⟨es, clock, h9, _⟩, _⟩ := h.map
      rw [h9] at h8; cases h8

theorem rwrong_any (n : Int) (l : List CallD) (a : Option Addr) (c : Nat) (w : World) (hs : SlAt w a l.length 6 (callG l)) :
    Calls Try.prog 43 #[.int .i64 n, .slice a l.length c] w fun e w' => e = .returned (.int .i64 (wrongN n l)) ∧ Below w.heap.size w w' := by
  have hm := hs.1
  unfold maxLen at hm
  have Hs := Lib.hid hs; clear hs
  obtain ⟨R, hR⟩ : ∃ R, R = wrongN n l := ⟨_, rfl⟩
  rw [← hR]
  have HR := Lib.hid hR; clear hR
  by_cases h1 : n < 1
  · have hr : R = 1 := by rw [HR.out]; unfold wrongN; rw [if_pos (.inl h1)]
    subst hr
    go_enter Try.func43, Try.ntmps43
    go_wp2
    go_ret
    exact ⟨rfl, Gr.refl _⟩
  by_cases h2 : 16 < n
  · have hr : R = 1 := by rw [HR.out]; unfold wrongN; rw [if_pos (.inr h2)]
    subst hr
    go_enter Try.func43, Try.ntmps43
    go_wp2
    go_ret
    exact ⟨rfl, Gr.refl _⟩
  by_cases h3 : 1000 < l.length
  · have hr : R = 3 := by rw [HR.out]; unfold wrongN; rw [if_neg (by omega), if_pos h3]
    subst hr
    have h4 : (1000 : Int) < l.length := by omega
    go_enter Try.func43, Try.ntmps43
    go_wp2
    go_ret
    exact ⟨rfl, Gr.refl _⟩
  have hr : R = if anyBad n l = true then 1 else 0 := by rw [HR.out]; unfold wrongN; rw [if_neg (by omega), if_neg h3]; rfl
  have HR2 := Lib.hid hr
  clear hr HR
  go_enter Try.func43, Try.ntmps43
  go_wp2
  go_loopw [5, 17] (fun _ i wr => ∃ k : Nat, k ≤ l.length ∧ i = .int .i64 k ∧ Hid (∀ j, (h : j < k) → (hl : j < l.length) → badT n l[j] = false) ∧ Below w.heap.size w wr) (fun _ i _ => l.length - (intOf i).toNat)
  case atStart => exact ⟨0, Nat.zero_le _, rfl, fun j h => absurd h (Nat.not_lt_zero j), Gr.refl _⟩
  case round =>
    obtain ⟨k, hk, rfl, hok, hb⟩ := hrel
    by_cases hlt : k < l.length
    · obtain ⟨b, off, rfl, c0, _⟩ := call_cells Hs.out hb hlt
      obtain ⟨t, ht⟩ : ∃ t, t = l[k].thread := ⟨_, rfl⟩
      rw [← ht] at c0
      have Ht := Lib.hid ht; clear ht
      have hl1 : (k : Int) < l.length := by omega
      by_cases hb1 : t < 0
      · have hbad : R = 1 := by rw [HR2.out, if_pos (by unfold anyBad; exact List.any_eq_true.2 ⟨l[k], List.getElem_mem hlt, by unfold badT; rw [← Ht.out]; simp [hb1]⟩)]
        subst hbad
        have hd : decide (t < 0) = true := by simpa using hb1
        go_wp2
        all_goals go_ret
        all_goals exact ⟨rfl, hb⟩
      · by_cases hb2 : n ≤ t
        · have hbad : R = 1 := by rw [HR2.out, if_pos (by unfold anyBad; exact List.any_eq_true.2 ⟨l[k], List.getElem_mem hlt, by unfold badT; rw [← Ht.out]; simp [hb2]⟩)]
          subst hbad
          go_wp2
          all_goals go_ret
          all_goals exact ⟨rfl, hb⟩
        · go_wp2
          go_roundw
          case rel =>
            refine ⟨k + 1, by omega, by go_num, ?_, hb⟩
            intro j h hl
            rcases Nat.lt_succ_iff_lt_or_eq.1 h with h | rfl
            · exact hok.out j h hl
            · unfold badT; rw [← Ht.out]; simp; omega
          case measure => simp [intOf] <;> omega
    · obtain rfl : k = l.length := by omega
      have hz : R = 0 := by
        rw [HR2.out, if_neg]
        unfold anyBad
        rw [List.any_eq_true]
        rintro ⟨x, hx, hbx⟩
        obtain ⟨j, hj, rfl⟩ := List.getElem_of_mem hx
        rw [hok.out j hj hj] at hbx
        cases hbx
      subst hz
      go_wp2
      go_ret
      exact ⟨rfl, hb⟩

/-- THE REFERENCE's Now: the first call of a thread that is not finished. -/
def boolG (l : List Bool) (j _f : Nat) : Value := .bool (l.getD j false)
def nowIs (l : List CallD) (fin : List Bool) (p : Int) (i : Nat) : Bool := decide ((l.getD i d0).thread = p) && !(fin.getD i false)
def nowN (l : List CallD) (fin : List Bool) (p : Int) : Option Nat := (List.range l.length).find? (nowIs l fin p)
def nowI (o : Option Nat) : Int := match o with | some i => (i : Int) | none => -1

theorem find_range_split (f : Nat → Bool) (n k : Nat) (hk : k ≤ n) (h : ∀ j, j < k → f j = false) : (List.range n).find? f = ((List.range (n - k)).map (k + ·)).find? f := by
  rw [show List.range n = List.range k ++ (List.range (n - k)).map (k + ·) from Deep.range_split hk, List.find?_append]
  have : (List.range k).find? f = none := by
    rw [List.find?_eq_none]
    intro x hx
    simpa using h x (List.mem_range.1 hx)
  rw [this]; rfl

theorem rnow_any (l : List CallD) (fin : List Bool) (p : Int) (a a2 : Option Addr) (c c2 : Nat) (w : World) (hs : SlAt w a l.length 6 (callG l)) (hs2 : SlAt w a2 l.length 1 (boolG fin)) :
    Calls Try.prog 44 #[.slice a l.length c, .slice a2 l.length c2, .int .i64 p] w fun e w' => e = .returned (.int .i64 (nowI (nowN l fin p))) ∧ w = w' := by
  have hm := hs.1
  unfold maxLen at hm
  have Hs := Lib.hid hs; have Hs2 := Lib.hid hs2; clear hs hs2
  obtain ⟨R, hR⟩ : ∃ R, R = nowI (nowN l fin p) := ⟨_, rfl⟩
  rw [← hR]
  have HR := Lib.hid hR; clear hR
  go_enter Try.func44, Try.ntmps44
  go_wp2
  go_loop [7, 10] (fun _ i => ∃ k : Nat, k ≤ l.length ∧ i = .int .i64 k ∧ Hid (∀ j, (h : j < k) → nowIs l fin p j = false)) (fun _ i => l.length - (intOf i).toNat)
  case atStart => exact ⟨0, Nat.zero_le _, rfl, fun j h => absurd h (Nat.not_lt_zero j)⟩
  case round =>
    obtain ⟨k, hk, rfl, hok⟩ := hrel
    by_cases hlt : k < l.length
    · obtain ⟨b, off, rfl, c0, _⟩ := call_cells Hs.out (Gr.refl w) hlt
      obtain ⟨b2, off2, rfl, hc2⟩ := Hs2.out.elem (Gr.refl w) hlt
      obtain ⟨f, hf⟩ : ∃ f, f = fin.getD k false := ⟨_, rfl⟩
      have c1 : w.cell? ⟨b2, off2 + k, none⟩ = some (.bool f) := by have h0 := hc2 0 (by omega); rw [Nat.mul_one, Nat.add_zero] at h0; rw [h0, hf]; rfl
      obtain ⟨t, ht⟩ : ∃ t, t = l[k].thread := ⟨_, rfl⟩
      rw [← ht] at c0
      have hns : nowIs l fin p k = (decide (t = p) && !f) := by unfold nowIs; rw [← hf, List.getD_eq_getElem?_getD]; simp [hlt, ← ht]
      have Hns := Lib.hid hns
      have hl1 : (k : Int) < l.length := by omega
      clear hc2 hf ht hns
      have hstep : nowIs l fin p k = false → Hid (∀ j, (h : j < k + 1) → nowIs l fin p j = false) := fun hn j h => by
        rcases Nat.lt_succ_iff_lt_or_eq.1 h with h | rfl
        · exact hok.out j h
        · exact hn
      by_cases h1 : t = p
      · have hbeq : (t == p) = true := by simpa using h1
        cases f with
        | false =>
          have hfound : R = (k : Int) := by
            rw [HR.out]
            unfold nowN
            rw [find_range_split _ _ k hk hok.out, show l.length - k = (l.length - k - 1) + 1 by omega, List.range_succ_eq_map]
            simp [Hns.out, h1, nowI]
          have Hf := Lib.hid hfound
          clear hstep h1 hfound
          go_wp2
          go_ret
          exact ⟨ret_i64 Hf.out.symm, rfl⟩
        | true =>
          have Hst := Lib.hid (hstep (by rw [Hns.out]; simp))
          clear hstep h1
          go_wp2
          go_round
          case rel => exact ⟨k + 1, by omega, by go_num, Hst.out⟩
          case measure => simp [intOf] <;> omega
      · have hbeq : (t == p) = false := by simpa using h1
        have Hst := Lib.hid (hstep (by rw [Hns.out]; simp [h1]))
        clear hstep h1
        go_wp2
        go_round
        case rel => exact ⟨k + 1, by omega, by go_num, Hst.out⟩
        case measure => simp [intOf] <;> omega
    · obtain rfl : k = l.length := by omega
      have hnone : R = -1 := by
        rw [HR.out]
        unfold nowN
        rw [find_range_split _ _ l.length (Nat.le_refl _) hok.out]
        simp [nowI]
      subst hnone
      go_wp2
      go_ret
      exact ⟨rfl, rfl⟩

/-! ### The queues and the flags: plain laws -/
def qF (l : List CallD) (fin : List Bool) (p : Int) : List Nat := (List.range l.length).filter (nowIs l fin p)

theorem qF_init (l : List CallD) (p : Int) : qF l (List.replicate l.length false) p = qOf l l.length p := by
  unfold qF qOf
  apply List.filter_congr
  intro i hi
  have := List.mem_range.1 hi
  unfold nowIs d0
  simp [List.getD_eq_getElem?_getD, List.getElem?_replicate, this]

theorem nowN_head (l : List CallD) (fin : List Bool) (p : Int) : nowN l fin p = (qF l fin p).head? := by
  unfold nowN qF
  rw [List.head?_filter]

theorem nowN_spec {l : List CallD} {fin : List Bool} {p : Int} {i : Nat} (h : nowN l fin p = some i) : i < l.length ∧ (l.getD i d0).thread = p ∧ fin.getD i false = false := by
  unfold nowN at h
  have h1 := List.find?_some h
  have h2 := List.mem_of_find?_eq_some h
  unfold nowIs at h1
  simp at h1
  exact ⟨List.mem_range.1 h2, by simpa using h1.1, by simpa using h1.2⟩

theorem qF_set {l : List CallD} {fin : List Bool} {p : Int} {i : Nat} {r : List Nat} (hlen : fin.length = l.length) (h : qF l fin p = i :: r) : qF l (fin.set i true) = qDrop (qF l fin) p := by
  have hn : nowN l fin p = some i := by rw [nowN_head, h]; rfl
  obtain ⟨hi, ht, hf⟩ := nowN_spec hn
  have hnd : (qF l fin p).Nodup := List.Pairwise.filter _ List.nodup_range
  funext x
  have key : ∀ j, nowIs l (fin.set i true) x j = (nowIs l fin x j && !(decide (j = i))) := by
    intro j
    unfold nowIs
    by_cases hj : j = i
    · subst hj
      simp [List.getD_eq_getElem?_getD, List.getElem?_set, hlen, hi]
    · simp [List.getD_eq_getElem?_getD, List.getElem?_set, Ne.symm hj, hj]
  unfold qDrop
  by_cases hx : x = p
  · subst hx
    rw [if_pos rfl, h]
    have e1 : qF l (fin.set i true) x = (qF l fin x).filter (fun j => !(decide (j = i))) := by
      unfold qF
      rw [List.filter_filter]
      apply List.filter_congr
      intro j _
      rw [key, Bool.and_comm]
    rw [e1, h]
    rw [h] at hnd
    simp only [List.tail_cons]
    rw [List.filter_cons_of_neg (by simp), List.filter_eq_self]
    intro j hj
    have := (List.nodup_cons.1 hnd).1
    simp
    rintro rfl
    exact this hj
  · rw [if_neg hx]
    unfold qF
    apply List.filter_congr
    intro j _
    rw [key]
    by_cases hj : j = i
    · subst hj
      unfold nowIs
      rw [ht]
      simp [Ne.symm hx]
    · simp [hj]
end Go.Proofs.Ytajlceknahngkaa
