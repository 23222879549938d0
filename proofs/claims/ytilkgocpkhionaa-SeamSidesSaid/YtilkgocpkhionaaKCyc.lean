/- Plain: a closed row of spots as a function on all integers; simple polygons under shifts, reversals and maps; areas. -/
import Derived.Test.YtilkgocpkhionaaKGeo
namespace Go.Proofs.Ytilkgocpkhionaa
open Go.RowKit
/- the closed row: index modulo the length -/
def cy (l : List Spot) (i : Int) : Spot := gS l (i % l.length).toNat
theorem cy_nat {l : List Spot} {k : Nat} (h : k < l.length) : cy l k = gS l k := by
  unfold cy; rw [Int.emod_eq_of_lt (by omega) (by omega)]; rfl
theorem cy_mod {l : List Spot} {i j : Int} (h : i % l.length = j % l.length) : cy l i = cy l j := by unfold cy; rw [h]
theorem cy_of {l : List Spot} (hl : 0 < l.length) (i : Int) : ∃ k : Nat, k < l.length ∧ i % l.length = k ∧ cy l i = gS l k := by
  have h0 := Int.emod_nonneg i (show (l.length : Int) ≠ 0 by omega)
  have h1 := Int.emod_lt_of_pos i (show (0 : Int) < l.length by omega)
  exact ⟨(i % l.length).toNat, by omega, by omega, rfl⟩
theorem cy_modn {l : List Spot} (_ : 0 < l.length) (k : Nat) : cy l k = gS l (k % l.length) := by
  unfold cy; congr 1
theorem cy_add {l : List Spot} (i : Int) (t : Int) : cy l (i + t * l.length) = cy l i := cy_mod (by simp)
def AllB (l : List Spot) : Prop := ∀ k, k < l.length → inB (gS l k)
theorem AllB.cy {l : List Spot} (h : AllB l) (hl : 0 < l.length) (i : Int) : inB (cy l i) := by
  obtain ⟨k, hk, _, e⟩ := cy_of hl i
  rw [e]; exact h k hk
structure SimpleX (l : List Spot) : Prop where
  a : ∀ i j : Int, cy l i = cy l j → i % l.length = j % l.length
  b : ∀ i : Int, foldB (cy l i) (cy l (i + 1)) (cy l (i + 2)) = false
  c : ∀ i k : Int, (k - i) % l.length ≠ 0 → (k - i) % l.length ≠ 1 → (k - i) % l.length ≠ l.length - 1 → meetB (cy l i) (cy l (i + 1)) (cy l k) (cy l (k + 1)) = false
theorem shift_mod {i a n : Int} (h : i % n = a) (t : Int) : (i + t) % n = (a + t) % n := by rw [Int.add_emod, h, ← Int.add_emod_emod]; simp [← h]
theorem simple_iff {l : List Spot} (hB : AllB l) (h3 : 3 ≤ l.length) : simpleB l = true ↔ SimpleX l := by
  have hl : 0 < l.length := by omega
  unfold simpleB
  rw [Bool.and_eq_true, allB_iff, allB_iff]
  constructor
  · rintro ⟨hd, hs⟩
    have hdup : ∀ i j : Nat, j < i → i < l.length → gS l i ≠ gS l j := fun i j hji hi he => by
      have h := hd i hi
      unfold dupF at h
      simp only [Bool.not_eq_true', List.any_eq_false] at h
      have := h (gS l j) (by rw [gS_eq (show j < l.length by omega)]; exact List.mem_take_iff_getElem.2 ⟨j, by omega, rfl⟩)
      rw [he] at this; simp at this
    have hmeet : ∀ i k : Nat, i + 2 ≤ k → k < l.length → (k + 1) % l.length ≠ i → meetB (cy l i) (cy l (i + 1 : Nat)) (cy l k) (cy l (k + 1 : Nat)) = false := fun i k hik hk hne => by
      have h := hs i (by omega)
      unfold sideF at h
      rw [Bool.and_eq_true, allB_iff] at h
      have h2 := h.2 (k - (i + 2)) (by omega)
      unfold meetF at h2
      rw [show i + 2 + (k - (i + 2)) = k from by omega, Bool.or_eq_true] at h2
      rw [cy_nat (show i < l.length by omega), cy_modn hl, cy_nat hk, cy_modn hl]
      rcases h2 with h2 | h2
      · exact absurd (by simpa using h2) hne
      · simpa using h2
    refine ⟨fun i j he => ?_, fun i => ?_, fun i k h0 h1 h2 => ?_⟩
    · obtain ⟨a, ha, ea, ca⟩ := cy_of hl i
      obtain ⟨b, hb, eb, cb⟩ := cy_of hl j
      rw [ca, cb] at he
      rcases Nat.lt_trichotomy a b with h | h | h
      · exact absurd he.symm (hdup b a h hb)
      · rw [ea, eb, h]
      · exact absurd he (hdup a b h ha)
    · obtain ⟨a, ha, ea, ca⟩ := cy_of hl i
      have h := hs a ha
      unfold sideF at h
      rw [Bool.and_eq_true] at h
      have h1 := h.1
      rw [ca, cy_mod (l := l) (i := i + 1) (j := (a + 1 : Nat)) (by rw [shift_mod ea]; congr 1), cy_mod (l := l) (i := i + 2) (j := (a + 2 : Nat)) (by rw [shift_mod ea]; congr 1), cy_modn hl, cy_modn hl]
      simpa using h1
    · obtain ⟨a, ha, ea, ca⟩ := cy_of hl i
      obtain ⟨b, hb, eb, cb⟩ := cy_of hl k
      have e1 : cy l (i + 1) = cy l (a + 1 : Nat) := cy_mod (by rw [shift_mod ea]; congr 1)
      have e2 : cy l (k + 1) = cy l (b + 1 : Nat) := cy_mod (by rw [shift_mod eb]; congr 1)
      have e3 : cy l i = cy l (a : Nat) := cy_mod (by rw [ea, Int.emod_eq_of_lt (by omega) (by omega)])
      have e4 : cy l k = cy l (b : Nat) := cy_mod (by rw [eb, Int.emod_eq_of_lt (by omega) (by omega)])
      have ed : (k - i) % l.length = ((b : Int) - a) % l.length := by rw [Int.sub_emod, ea, eb]
      rw [ed] at h0 h1 h2
      rw [e1, e2, e3, e4]
      rcases Nat.lt_trichotomy a b with h | h | h
      · rw [Int.emod_eq_of_lt (by omega) (by omega)] at h0 h1 h2
        refine hmeet a b (by omega) hb (fun hm => ?_)
        rcases Nat.lt_or_ge (b + 1) l.length with hb' | hb'
        · rw [Nat.mod_eq_of_lt hb'] at hm; omega
        · rw [show b + 1 = l.length from by omega, Nat.mod_self] at hm; omega
      · subst h; simp at h0
      · have em : ((b : Int) - a) % l.length = (b : Int) - a + l.length := by
          rw [← Int.add_emod_right, Int.emod_eq_of_lt (by omega) (by omega)]
        rw [em] at h0 h1 h2
        rw [meetB_comm (hB.cy hl _) (hB.cy hl _) (hB.cy hl _) (hB.cy hl _)]
        refine hmeet b a (by omega) ha (fun hm => ?_)
        rcases Nat.lt_or_ge (a + 1) l.length with ha' | ha'
        · rw [Nat.mod_eq_of_lt ha'] at hm; omega
        · rw [show a + 1 = l.length from by omega, Nat.mod_self] at hm; omega
  · intro h
    refine ⟨fun i hi => ?_, fun i hi => ?_⟩
    · unfold dupF
      simp only [Bool.not_eq_true', List.any_eq_false]
      intro s hs he
      obtain ⟨j, hj, rfl⟩ := List.mem_take_iff_getElem.1 hs
      have hj' : j < i := by omega
      have e : gS l i = gS l j := by rw [gS_eq (show j < l.length by omega)]; simpa using he
      have := h.a i j (by rw [cy_nat hi, cy_nat (by omega), e])
      rw [Int.emod_eq_of_lt (by omega) (by omega), Int.emod_eq_of_lt (by omega) (by omega)] at this
      omega
    · unfold sideF
      rw [Bool.and_eq_true, allB_iff]
      have hb := h.b i
      rw [show (i : Int) + 1 = ((i + 1 : Nat) : Int) from by push_cast; rfl, show (i : Int) + 2 = ((i + 2 : Nat) : Int) from by push_cast; rfl, cy_nat hi, cy_modn hl, cy_modn hl] at hb
      refine ⟨by rw [hb]; rfl, fun j hj => ?_⟩
      unfold meetF
      rw [Bool.or_eq_true]
      by_cases hm : (i + 2 + j + 1) % l.length = i
      · exact .inl (by simpa using hm)
      · refine .inr ?_
        have hc := h.c i (i + 2 + j : Nat)
        have hd : (((i + 2 + j : Nat) : Int) - i) % l.length = 2 + j := by rw [Int.emod_eq_of_lt (by omega) (by omega)]; omega
        rw [hd] at hc
        have hc := hc (by omega) (by omega) (by
          intro e
          apply hm
          have : i = 0 := by omega
          subst this
          rw [show 0 + 2 + j + 1 = l.length from by omega, Nat.mod_self])
        rw [show (i : Int) + 1 = ((i + 1 : Nat) : Int) from by push_cast; rfl, show ((i + 2 + j : Nat) : Int) + 1 = ((i + 2 + j + 1 : Nat) : Int) from by push_cast; rfl, cy_nat hi, cy_modn hl, cy_nat (by omega), cy_modn hl] at hc
        rw [hc]; rfl
theorem sub_mod_iff {i j n : Int} (c : Int) : (i - c) % n = (j - c) % n ↔ i % n = j % n := by
  rw [Int.emod_eq_emod_iff_emod_sub_eq_zero, Int.emod_eq_emod_iff_emod_sub_eq_zero]
  rw [show i - c - (j - c) = i - j from by omega]
theorem neg_mod_iff {i j n : Int} (c : Int) : (c - i) % n = (c - j) % n ↔ i % n = j % n := by
  rw [Int.emod_eq_emod_iff_emod_sub_eq_zero, Int.emod_eq_emod_iff_emod_sub_eq_zero]
  rw [show c - i - (c - j) = -(i - j) from by omega, ← Int.dvd_iff_emod_eq_zero, ← Int.dvd_iff_emod_eq_zero, Int.dvd_neg]
theorem neg_emod' {x n : Int} (hn : 0 < n) : (-x) % n = if x % n = 0 then 0 else n - x % n := by
  have h0 := Int.emod_nonneg x (show n ≠ 0 by omega)
  have h1 := Int.emod_lt_of_pos x hn
  have e : (-x) % n = (-(x % n)) % n := by
    rw [Int.emod_eq_emod_iff_emod_sub_eq_zero, show -x - -(x % n) = -(x - x % n) from by omega, ← Int.dvd_iff_emod_eq_zero, Int.dvd_neg]
    exact ⟨x / n, by have := Int.emod_add_mul_ediv x n; omega⟩
  rw [e]
  split
  · rename_i h; rw [h]; simp
  · rw [← Int.add_emod_right, Int.emod_eq_of_lt (by omega) (by omega)]; omega
section
variable {l l' : List Spot} {T : Spot → Spot} {e : Int}
theorem shift_simple (hT : Pres T e) (hlen : l'.length = l.length) (hB : AllB l) (hl : 0 < l.length) (c : Int) (h : ∀ i, cy l' i = T (cy l (i + c))) : SimpleX l' ↔ SimpleX l := by
  have hb : ∀ i, inB (cy l i) := fun i => hB.cy hl i
  have h' : ∀ i, T (cy l i) = cy l' (i - c) := fun i => by rw [h, show i - c + c = i from by omega]
  constructor
  · intro s
    refine ⟨fun i j he => ?_, fun i => ?_, fun i k h0 h1 h2 => ?_⟩
    · have := s.a (i - c) (j - c) (by rw [← h', ← h', he])
      rw [hlen] at this
      exact (sub_mod_iff c).1 this
    · have := s.b (i - c)
      rw [show i - c + 1 = i + 1 - c from by omega, show i - c + 2 = i + 2 - c from by omega, ← h', ← h', ← h', hT.fold (hb _) (hb _) (hb _)] at this
      exact this
    · have := s.c (i - c) (k - c) (by rw [hlen, show k - c - (i - c) = k - i from by omega]; exact h0) (by rw [hlen, show k - c - (i - c) = k - i from by omega]; exact h1) (by rw [hlen, show k - c - (i - c) = k - i from by omega]; exact h2)
      rw [show i - c + 1 = i + 1 - c from by omega, show k - c + 1 = k + 1 - c from by omega, ← h', ← h', ← h', ← h', hT.meet (hb _) (hb _) (hb _) (hb _)] at this
      exact this
  · intro s
    refine ⟨fun i j he => ?_, fun i => ?_, fun i k h0 h1 h2 => ?_⟩
    · rw [h, h] at he
      have := s.a _ _ (hT.inj _ _ he (hb _) (hb _))
      rw [hlen]
      have h2 := (sub_mod_iff (i := i + c) (j := j + c) c).2 this
      rwa [show i + c - c = i from by omega, show j + c - c = j from by omega] at h2
    · rw [h, h, h, hT.fold (hb _) (hb _) (hb _)]
      have := s.b (i + c)
      rwa [show i + c + 1 = i + 1 + c from by omega, show i + c + 2 = i + 2 + c from by omega] at this
    · rw [hlen] at h0 h1 h2
      rw [h, h, h, h, hT.meet (hb _) (hb _) (hb _) (hb _)]
      have := s.c (i + c) (k + c) (by rw [show k + c - (i + c) = k - i from by omega]; exact h0) (by rw [show k + c - (i + c) = k - i from by omega]; exact h1) (by rw [show k + c - (i + c) = k - i from by omega]; exact h2)
      rwa [show i + c + 1 = i + 1 + c from by omega, show k + c + 1 = k + 1 + c from by omega] at this
theorem diff_rev {i k n : Int} (hn : 3 ≤ n) (h0 : (k - i) % n ≠ 0) (h1 : (k - i) % n ≠ 1) (h2 : (k - i) % n ≠ n - 1) : (i - k) % n ≠ 0 ∧ (i - k) % n ≠ 1 ∧ (i - k) % n ≠ n - 1 := by
  rw [show i - k = -(k - i) from by omega, neg_emod' (by omega), if_neg h0]
  have := Int.emod_lt_of_pos (k - i) (show 0 < n by omega)
  omega
theorem rev_simple (hT : Pres T e) (hlen : l'.length = l.length) (hB : AllB l) (h3 : 3 ≤ l.length) (c : Int) (h : ∀ i, cy l' i = T (cy l (c - i))) : SimpleX l' ↔ SimpleX l := by
  have hl : 0 < l.length := by omega
  have hb : ∀ i, inB (cy l i) := fun i => hB.cy hl i
  have h' : ∀ i, T (cy l i) = cy l' (c - i) := fun i => by rw [h, show c - (c - i) = i from by omega]
  constructor
  · intro s
    refine ⟨fun i j he => ?_, fun i => ?_, fun i k h0 h1 h2 => ?_⟩
    · have := s.a (c - i) (c - j) (by rw [← h', ← h', he])
      rw [hlen] at this
      exact (neg_mod_iff c).1 this
    · have := s.b (c - (i + 2))
      rw [show c - (i + 2) + 1 = c - (i + 1) from by omega, show c - (i + 2) + 2 = c - i from by omega, ← h', ← h', ← h', hT.fold (hb _) (hb _) (hb _), foldB_rev (hb _) (hb _) (hb _)] at this
      exact this
    · obtain ⟨d0, d1, d2⟩ := diff_rev (by omega) h0 h1 h2
      have ed : c - (k + 1) - (c - (i + 1)) = i - k := by omega
      have := s.c (c - (i + 1)) (c - (k + 1)) (by rw [hlen, ed]; exact d0) (by rw [hlen, ed]; exact d1) (by rw [hlen, ed]; exact d2)
      rw [show c - (i + 1) + 1 = c - i from by omega, show c - (k + 1) + 1 = c - k from by omega, ← h', ← h', ← h', ← h', hT.meet (hb _) (hb _) (hb _) (hb _), meetB_rev (hb _) (hb _) (hb _) (hb _)] at this
      exact this
  · intro s
    refine ⟨fun i j he => ?_, fun i => ?_, fun i k h0 h1 h2 => ?_⟩
    · rw [h, h] at he
      have := s.a _ _ (hT.inj _ _ he (hb _) (hb _))
      rw [hlen]
      exact (neg_mod_iff c).1 this
    · rw [h, h, h, hT.fold (hb _) (hb _) (hb _)]
      have := s.b (c - (i + 2))
      rw [show c - (i + 2) + 1 = c - (i + 1) from by omega, show c - (i + 2) + 2 = c - i from by omega, foldB_rev (hb _) (hb _) (hb _)] at this
      exact this
    · rw [hlen] at h0 h1 h2
      rw [h, h, h, h, hT.meet (hb _) (hb _) (hb _) (hb _)]
      obtain ⟨d0, d1, d2⟩ := diff_rev (by omega) h0 h1 h2
      have ed : c - (k + 1) - (c - (i + 1)) = i - k := by omega
      have := s.c (c - (i + 1)) (c - (k + 1)) (by rw [ed]; exact d0) (by rw [ed]; exact d1) (by rw [ed]; exact d2)
      rw [show c - (i + 1) + 1 = c - i from by omega, show c - (k + 1) + 1 = c - k from by omega, meetB_rev (hb _) (hb _) (hb _) (hb _)] at this
      exact this
end
end Go.Proofs.Ytilkgocpkhionaa
