/- Plain: an outline and its turned image pass the check together. -/
import Derived.Test.YtkigmpholnfkbaaGreatKCyc
namespace Go.Proofs.YtkigmpholnfkbaaGreat
open Go.RowKit
def wfS (s : Spot) : Prop := -9223372036854775808 ≤ s.1 ∧ s.1 ≤ 9223372036854775807 ∧ -9223372036854775808 ≤ s.2 ∧ s.2 ≤ 9223372036854775807
theorem wneg {x : Int} (h0 : -9223372036854775808 ≤ x) (h1 : x ≤ 9223372036854775807) : wrap64 (-x) = if x = -9223372036854775808 then x else -x := by
  split
  · rename_i h; subst h; unfold wrap64; omega
  · exact w64 (by omega) (by omega)
theorem wfS_quart {s : Spot} (h : wfS s) : wfS (quart s) ∧ (inB (quart s) ↔ inB s) := by
  obtain ⟨h1, h2, h3, h4⟩ := h
  unfold quart wfS inB
  rw [wneg h3 h4]
  split <;> (simp only; omega)
theorem wfS_flip {s : Spot} (h : wfS s) : wfS (flipS true s) ∧ (inB (flipS true s) ↔ inB s) := by
  obtain ⟨h1, h2, h3, h4⟩ := h
  have e : flipS true s = (if s.1 = -9223372036854775808 then s.1 else -s.1, s.2) := by unfold flipS; rw [if_pos rfl, wneg h1 h2]
  rw [e]
  unfold wfS inB
  by_cases h : s.1 = -9223372036854775808
  · simp only [if_pos h]; exact ⟨⟨h1, h2, h3, h4⟩, trivial⟩
  · simp only [if_neg h]; omega
theorem wfS_quarts {s : Spot} (h : wfS s) : ∀ n, wfS (quarts n s) ∧ (inB (quarts n s) ↔ inB s)
  | 0 => ⟨h, Iff.rfl⟩
  | n + 1 => by
    obtain ⟨a, b⟩ := wfS_quarts h n
    obtain ⟨c, d⟩ := wfS_quart a
    exact ⟨c, d.trans b⟩
theorem wfS_apply {s : Spot} (h : wfS s) (f : Bool) (q : Int) : wfS (applyT f q s) ∧ (inB (applyT f q s) ↔ inB s) := by
  cases f
  · exact wfS_quarts h _
  · obtain ⟨a, b⟩ := wfS_flip h
    obtain ⟨c, d⟩ := wfS_quarts a (q % 4).toNat
    exact ⟨c, d.trans b⟩
theorem inB_wf {s : Spot} (h : inB s) : wfS s := by obtain ⟨h1, h2, h3, h4⟩ := h; exact ⟨by omega, by omega, by omega, by omega⟩
def WfL (l : List Spot) : Prop := ∀ k, k < l.length → wfS (gS l k)
def WfE (es : List Edge) : Prop := ∀ i, i < es.length → WfL (gE es i).2
/- lines -/
theorem outB_iff (s : Spot) : outB s = false ↔ inB s := by
  unfold outB inB
  rw [decide_eq_false_iff_not]; omega
theorem any_out (l : List Spot) : l.any outB = false ↔ AllB l := by
  rw [List.any_eq_false]
  constructor
  · intro h k hk
    rw [gS_eq hk]
    exact (outB_iff _).1 (by simpa using h _ (List.getElem_mem hk))
  · intro h s hs
    obtain ⟨k, hk, rfl⟩ := List.getElem_of_mem hs
    have := h k hk
    rw [gS_eq hk] at this
    simp [(outB_iff _).2 this]
theorem lcheck_iff (l : List Spot) : lcheck l = 0 ↔ 2 ≤ l.length ∧ l.length ≤ 40 ∧ AllB l ∧ ∀ k, k + 1 < l.length → gS l k ≠ gS l (k + 1) := by
  constructor
  · intro h
    obtain ⟨h2, h40, hin⟩ := lcheck_zero h
    refine ⟨h2, h40, hin, fun k hk => ?_⟩
    unfold lcheck at h
    rw [if_neg (by omega), if_neg (by omega), if_neg (by rw [(any_out l).2 hin]; decide)] at h
    split at h
    · rename_i hs
      have := (allB_iff _ _).1 hs k (by omega)
      unfold stepF at this
      simpa using this
    · cases h
  · rintro ⟨h2, h40, hin, hs⟩
    unfold lcheck
    rw [if_neg (by omega), if_neg (by omega), if_neg (by rw [(any_out l).2 hin]; decide), if_pos]
    rw [allB_iff]
    intro k hk
    unfold stepF
    simpa using hs k (by omega)
theorem pcheck_iff (l : List Spot) : pcheck l = 0 ↔ 3 ≤ l.length ∧ l.length ≤ 40 ∧ AllB l ∧ simpleB l = true := by
  unfold pcheck
  constructor
  · intro h
    split at h
    · cases h
    split at h
    · cases h
    split at h
    · cases h
    split at h
    · rename_i h1 h2 h3 h4
      exact ⟨by omega, by omega, (any_out l).1 (by simpa using h3), h4⟩
    · cases h
  · rintro ⟨h2, h40, hin, hs⟩
    rw [if_neg (by omega), if_neg (by omega), if_neg (by rw [(any_out l).2 hin]; decide), if_pos hs]
/- turned lines -/
theorem turnL_get {f : Bool} {q : Int} {l : List Spot} {k : Nat} (h : k < l.length) : gS (turnL f q l) k = applyT f q (gS l (if f = true then l.length - 1 - k else k)) := by
  unfold turnL
  split
  · rename_i hf
    rw [gS_eq (by simpa using h), List.getElem_reverse]
    simp only [List.getElem_map, List.length_map]
    rw [← gS_eq]
  · rw [gS_eq (by simpa using h)]
    simp only [List.getElem_map]
    rw [← gS_eq]
theorem turnL_all {f : Bool} {q : Int} {l : List Spot} (hw : WfL l) : AllB (turnL f q l) ↔ AllB l := by
  constructor
  · intro h k hk
    have := h (if f = true then l.length - 1 - k else k) (by rw [turnL_len]; split <;> omega)
    rw [turnL_get (by split <;> omega)] at this
    have e : (if f = true then l.length - 1 - (if f = true then l.length - 1 - k else k) else (if f = true then l.length - 1 - k else k)) = k := by split <;> omega
    rw [e] at this
    exact ((wfS_apply (hw k hk) f q).2).1 this
  · intro h k hk
    rw [turnL_len] at hk
    rw [turnL_get hk]
    exact (wfS_apply (hw _ (by split <;> omega)) f q).2.2 (h _ (by split <;> omega))
theorem turnL_lcheck {f : Bool} {q : Int} {l : List Spot} (hw : WfL l) : lcheck (turnL f q l) = 0 ↔ lcheck l = 0 := by
  rw [lcheck_iff, lcheck_iff, turnL_len, turnL_all hw]
  have key : AllB l → ((∀ k, k + 1 < l.length → gS (turnL f q l) k ≠ gS (turnL f q l) (k + 1)) ↔ ∀ k, k + 1 < l.length → gS l k ≠ gS l (k + 1)) := fun hB => by
    cases f
    · constructor
      · intro h k hk he
        apply h k hk
        rw [turnL_get (by omega), turnL_get (by omega)]
        simp [he]
      · intro h k hk he
        rw [turnL_get (by omega), turnL_get (by omega)] at he
        exact h k hk ((pres_apply false q).inj _ _ he (hB _ (by omega)) (hB _ (by omega)))
    · constructor
      · intro h k hk he
        apply h (l.length - 1 - (k + 1)) (by omega)
        rw [turnL_get (by omega), turnL_get (by omega)]
        simp only [if_true]
        rw [show l.length - 1 - (l.length - 1 - (k + 1)) = k + 1 from by omega, show l.length - 1 - (l.length - 1 - (k + 1) + 1) = k from by omega, he]
      · intro h k hk he
        rw [turnL_get (by omega), turnL_get (by omega)] at he
        simp only [if_true] at he
        have := (pres_apply true q).inj _ _ he (hB _ (by omega)) (hB _ (by omega))
        refine h (l.length - 1 - (k + 1)) (by omega) ?_
        rw [show l.length - 1 - (k + 1) + 1 = l.length - 1 - k from by omega]
        exact this.symm
  constructor
  · rintro ⟨a, b, c, d⟩; exact ⟨a, b, c, (key c).1 d⟩
  · rintro ⟨a, b, c, d⟩; exact ⟨a, b, c, (key c).2 d⟩
/- where an edge's vertices lie among all -/
def offE (es : List Edge) : Nat → Nat
  | 0 => 0
  | j + 1 => offE es j + ((gE es j).2.length - 1)
theorem verts_take_len (es : List Edge) : ∀ j, j ≤ es.length → (verts (es.take j)).length = offE es j
  | 0, _ => by simp [verts, offE]
  | j + 1, h => by rw [verts_succ (by omega), List.length_append, verts_take_len es j (by omega), List.length_dropLast]; rfl
theorem verts_len' (es : List Edge) : (verts es).length = offE es es.length := by
  have := verts_take_len es es.length (Nat.le_refl _)
  rwa [List.take_length] at this
theorem offE_mono (es : List Edge) {i j : Nat} (h : i ≤ j) : offE es i ≤ offE es j := by
  induction j with
  | zero => have : i = 0 := by omega
            subst this; exact Nat.le_refl _
  | succ j ih =>
    rcases Nat.lt_or_ge i (j + 1) with h' | h'
    · have := ih (by omega); simp only [offE]; omega
    · have : i = j + 1 := by omega
      subst this; exact Nat.le_refl _
theorem verts_get {es : List Edge} {j k : Nat} (hj : j < es.length) (hk : k < (gE es j).2.length - 1) : gS (verts es) (offE es j + k) = gS (gE es j).2 k := by
  have e : verts es = verts (es.take (j + 1)) ++ verts (es.drop (j + 1)) := by
    conv => lhs; rw [← List.take_append_drop (j + 1) es]
    unfold verts; rw [List.flatMap_append]
  have hl1 := verts_take_len es j (by omega)
  rw [e, verts_succ hj]
  unfold gS
  rw [List.getD_eq_getElem?_getD, List.getD_eq_getElem?_getD, List.append_assoc, List.getElem?_append_right (by omega), hl1, Nat.add_sub_cancel_left, List.getElem?_append_left (by rw [List.length_dropLast]; exact hk), List.getElem?_dropLast, if_pos hk]
theorem off_find (es : List Edge) : ∀ n x, x < offE es n → ∃ j k, j < n ∧ k < (gE es j).2.length - 1 ∧ x = offE es j + k
  | 0, x, h => absurd h (Nat.not_lt_zero _)
  | n + 1, x, h => by
    rcases Nat.lt_or_ge x (offE es n) with h' | h'
    · obtain ⟨j, k, hj, hk, e⟩ := off_find es n x h'
      exact ⟨j, k, by omega, hk, e⟩
    · simp only [offE] at h
      exact ⟨n, x - offE es n, by omega, by omega, by omega⟩
/- lines that are polylines and joined -/
structure Joined (es : List Edge) : Prop where
  n0 : 0 < es.length
  ln : ∀ i, i < es.length → 2 ≤ (gE es i).2.length
  jn : ∀ i, i < es.length → gS (gE es i).2 ((gE es i).2.length - 1) = gS (gE es ((i + 1) % es.length)).2 0
theorem Joined.pos {es : List Edge} (h : Joined es) : 0 < (verts es).length := by
  rw [verts_len']
  have h1 := offE_mono es (show 1 ≤ es.length from h.n0)
  have h2 := h.ln 0 h.n0
  simp only [offE] at h1; omega
theorem Joined.at {es : List Edge} (h : Joined es) {j k : Nat} (hj : j < es.length) (hk : k ≤ (gE es j).2.length - 1) : cy (verts es) ((offE es j + k : Nat) : Int) = gS (gE es j).2 k := by
  have hl := verts_len' es
  rcases Nat.lt_or_ge k ((gE es j).2.length - 1) with hk' | hk'
  · rw [cy_nat, verts_get hj hk']
    rw [hl]
    have := offE_mono es (show j + 1 ≤ es.length from hj)
    simp only [offE] at this; omega
  · obtain rfl : k = (gE es j).2.length - 1 := by omega
    rw [h.jn j hj]
    have hz : ∀ i, i < es.length → cy (verts es) ((offE es i : Nat) : Int) = gS (gE es i).2 0 := fun i hi => by
      have h2 := h.ln i hi
      rw [cy_nat]
      · have := verts_get hi (k := 0) (by omega)
        simpa using this
      · rw [hl]
        have := offE_mono es (show i + 1 ≤ es.length from hi)
        simp only [offE] at this; omega
    rcases Nat.lt_or_ge (j + 1) es.length with hj' | hj'
    · rw [Nat.mod_eq_of_lt hj', ← hz _ hj']; rfl
    · have : j + 1 = es.length := by omega
      rw [this, Nat.mod_self, ← hz 0 h.n0]
      refine cy_mod ?_
      have e : offE es j + ((gE es j).2.length - 1) = (verts es).length := by rw [hl, ← this]; rfl
      rw [e]; simp [offE]
end Go.Proofs.YtkigmpholnfkbaaGreat
