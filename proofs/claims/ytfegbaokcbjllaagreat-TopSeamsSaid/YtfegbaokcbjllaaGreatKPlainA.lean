/- Plain laws on grading: rounding, the multiple 0, corners, grading back, equal shifts. No program in sight. -/
import Derived.Test.YtfegbaokcbjllaaGreatKGraded
import Derived.Test.YtfegbaokcbjllaaGreatKSeg
namespace Go.Proofs.YtfegbaokcbjllaaGreat
open Go.RowKit
theorem rnd_zero (s : Int) (hs : 1 ≤ s) : rnd 0 s = 0 := by
 unfold rnd; rw [if_neg (by omega)]
 exact Int.ediv_eq_zero_of_lt (by omega) (by omega)
theorem half_div (x s : Int) (hs : 1 ≤ s) : (2 * (s * x) + s) / (2 * s) = x := by
 rw [show 2 * (s * x) + s = s + (2 * s) * x from by rw [Int.mul_assoc]; omega, Int.add_mul_ediv_left _ _ (by omega), Int.ediv_eq_zero_of_lt (by omega) (by omega)]; omega
theorem rnd_neg (a s : Int) (hs : 1 ≤ s) : rnd (-a) s = - rnd a s := by
 rcases Int.lt_trichotomy a 0 with h | h | h
 ·unfold rnd; rw [if_neg (by omega), if_pos h]; omega
 ·subst h; simp [rnd_zero s hs]
 ·unfold rnd; rw [if_pos (by omega), if_neg (by omega)]; simp
theorem rnd_bd (a s B : Int) (hs : 1 ≤ s) (h0 : -B * s ≤ a) (h1 : a ≤ B * s) : -B ≤ rnd a s ∧ rnd a s ≤ B := by
 have key : ∀ x : Int, 0 ≤ x → x ≤ B * s → 0 ≤ (2 * x + s) / (2 * s) ∧ (2 * x + s) / (2 * s) ≤ B := fun x hx hx' => by
  refine ⟨Int.ediv_nonneg (by omega) (by omega), ?_⟩
  have : (2 * x + s) / (2 * s) ≤ (2 * (s * B) + s) / (2 * s) := Int.ediv_le_ediv (by omega) (by rw [Int.mul_comm s B]; omega)
  rwa [half_div _ _ hs] at this
 have hB : 0 ≤ B := by
  rcases Int.lt_or_le B 0 with h | h
  ·have : B * s < 0 := Int.mul_neg_of_neg_of_pos h (by omega)
   have e : -B * s = -(B * s) := Int.neg_mul _ _
   omega
  ·exact h
 rw [Int.neg_mul] at h0
 unfold rnd
 split
 ·have := key (-a) (by omega) (by omega)
  omega
 ·have := key a (by omega) h1
  omega
theorem w64 {x : Int} (h0 : -9223372036854775808 ≤ x) (h1 : x ≤ 9223372036854775807) : wrap64 x = x := IntWalk.wrap64_in _ ⟨h0, by omega⟩
theorem list_ext_gE {a b : List Edge} (hl : a.length = b.length) (h : ∀ p, p < a.length → gE a p = gE b p) : a = b := by
 apply List.ext_getElem hl
 intro i h1 h2
 rw [← gE_eq h1, ← gE_eq h2]; exact h i h1
theorem list_ext_gS' {a b : List Spot} (hl : a.length = b.length) (h : ∀ p, p < a.length → gS a p = gS b p) : a = b := by
 apply List.ext_getElem hl
 intro i h1 h2
 rw [← gS_eq h1, ← gS_eq h2]; exact h i h1
theorem gradedE_get {es : List Edge} {cs : List Spot} {m : Int} {i : Nat} (h : i < es.length) : gE (gradedE es cs m) i = gradedAt es cs m i := by
 rw [gE_eq (by rw [gradedE_len]; exact h)]; simp [gradedE]
theorem movedS_g {l : List Spot} {a b : Spot} {k : Nat} (h : k < l.length) : gS (movedS l a b) k = mvS l a b k := by
 rw [gS_eq (by rw [movedS_len]; exact h), movedS_get h]
/- what it means that a piece can be graded -/
structure GOk (es : List Edge) (cs : List Spot) (m : Int) : Prop where
 m0 : -100 ≤ m
 m1 : m ≤ 100
 len : cs.length = es.length
 corn : allB (cornF cs) cs.length = true
 ok : ocheck es = 0
 ok' : ocheck (gradedE es cs m) = 0
theorem gradedR_iff (es : List Edge) (cs : List Spot) (m : Int) : gradedR es cs m = 0 ↔ GOk es cs m := by
 unfold gradedR
 constructor
 ·intro h
  split at h
  ·cases h
  split at h
  ·cases h
  split at h
  ·cases h
  split at h
  ·rename_i h1; exact absurd h h1
  ·rename_i h1 h2 h3 h4
   simp only [Bool.not_eq_false, decide_eq_true_eq] at h1
   exact ⟨h1.1, h1.2, by simpa using h2, by simpa using h3, by simpa using h4, h⟩
 ·rintro ⟨h1, h2, h3, h4, h5, h6⟩
  rw [if_neg (by simp; omega), if_neg (by simpa using h3), if_neg (by rw [h4]; decide), if_neg (by simpa using h5)]
  exact h6
theorem ocheck_edge {es : List Edge} (h : ocheck es = 0) {i : Nat} (hi : i < es.length) : edgeE es i = 0 := (firstE_zero _ _).1 (ocheck_ok h).2.2 i hi
theorem ocheck_line {es : List Edge} (h : ocheck es = 0) {i : Nat} (hi : i < es.length) : lcheck (gE es i).2 = 0 := edge_ok (ocheck_edge h hi)
theorem cornF_bd {cs : List Spot} (h : allB (cornF cs) cs.length = true) {j : Nat} (hj : j < cs.length) : -1000 ≤ (gS cs j).1 ∧ (gS cs j).1 ≤ 1000 ∧ -1000 ≤ (gS cs j).2 ∧ (gS cs j).2 ≤ 1000 := by
 have h1 := (allB_iff _ _).1 h j hj
 simp only [cornF, Bool.and_eq_true, decide_eq_true_eq] at h1
 omega
theorem mul_100 {m y : Int} (h0 : -100 ≤ m) (h1 : m ≤ 100) (hy : -1000 ≤ y) (hy' : y ≤ 1000) : -100000 ≤ m * y ∧ m * y ≤ 100000 := by
 rcases Int.le_total 0 m with h | h
 ·have a1 := Int.mul_le_mul_of_nonneg_left hy' h
  have a2 := Int.mul_le_mul_of_nonneg_left hy h
  omega
 ·have a1 := Int.mul_le_mul_of_nonpos_left h hy'
  have a2 := Int.mul_le_mul_of_nonpos_left h hy
  omega
theorem mulS_eq {m : Int} {s : Spot} (h0 : -100 ≤ m) (h1 : m ≤ 100) (h : -1000 ≤ s.1 ∧ s.1 ≤ 1000 ∧ -1000 ≤ s.2 ∧ s.2 ≤ 1000) : mulS m s = (m * s.1, m * s.2) := by
 have a := mul_100 h0 h1 h.1 h.2.1
 have b := mul_100 h0 h1 h.2.2.1 h.2.2.2
 unfold mulS; rw [w64 (by omega) (by omega), w64 (by omega) (by omega)]
theorem gS_map {f : Spot → Spot} {l : List Spot} {k : Nat} (h : k < l.length) : gS (l.map f) k = f (gS l k) := by
 rw [gS_eq (by simpa using h), gS_eq h]; simp
/- equal shifts -/
def moveS (d s : Spot) : Spot := (wrap64 (s.1 + d.1), wrap64 (s.2 + d.2))
end Go.Proofs.YtfegbaokcbjllaaGreat
