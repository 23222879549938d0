/- math/bits.Len off the kit's shelf; how many bits are enough -/
import Derived.Test.YtpmfikkcidgoeaaBase
import Derived.Shelf.Lay
import Derived.Shelf.Small.Bits
namespace Go.Proofs.Ytpmfikkcidgoeaa
open Go.RowKit Go.Shelf
shelf_lay Lays.n125 Nm 125 at Try as lays125
theorem bits_len (x : Int) (w : World) (h0 : 0 ≤ x) (h1 : x ≤ 18446744073709551615) :
    Calls Try.prog 68 #[.int .u64 x] w fun e w' => e = .returned (.int .i64 (Lib.bitLen x.toNat)) ∧ w' = w := Any.bits_Len lays125 x w h0 h1

theorem bitLenAux_lt : ∀ (f x : Nat), x < 2 ^ f → x < 2 ^ (Lib.bitLenAux f x)
  | 0, x, h => by simpa [Lib.bitLenAux] using h
  | f + 1, x, h => by
    simp only [Lib.bitLenAux]
    split
    · omega
    · have := bitLenAux_lt f (x / 2) (by rw [Nat.pow_succ] at h; omega)
      rw [Nat.add_comm, Nat.pow_succ]; omega
theorem bitLen_lt (x : Nat) (h : x < 18446744073709551616) : x < 2 ^ (Lib.bitLen x) := bitLenAux_lt 64 x h

/- the square root, binary digit by binary digit -/
def rootTo : Nat → Nat → Nat → Nat
  | 0, _, o => o
  | k + 1, n, o => if (o + 2 ^ k) * (o + 2 ^ k) ≤ n then rootTo k n (o + 2 ^ k) else rootTo k n o
def rootN (n : Nat) : Nat := rootTo 32 n 0
theorem rootTo_is : ∀ (k n o : Nat), o * o ≤ n → n < (o + 2 ^ k) * (o + 2 ^ k) →
    rootTo k n o * rootTo k n o ≤ n ∧ n < (rootTo k n o + 1) * (rootTo k n o + 1)
  | 0, n, o, h0, h1 => by simpa [rootTo] using ⟨h0, h1⟩
  | k + 1, n, o, h0, h1 => by
    simp only [rootTo]
    split
    · rename_i h
      exact rootTo_is k n _ h (by rw [Nat.add_assoc]; rw [Nat.pow_succ, Nat.mul_two] at h1; exact h1)
    · rename_i h
      exact rootTo_is k n _ h0 (by omega)
theorem rootN_is (n : Nat) (h : n < 18446744073709551616) : rootN n * rootN n ≤ n ∧ n < (rootN n + 1) * (rootN n + 1) :=
  rootTo_is 32 n 0 (by omega) (by simpa using h)
theorem root_one {n r s : Nat} (h1 : r * r ≤ n) (h2 : n < (r + 1) * (r + 1)) (h3 : s * s ≤ n) (h4 : n < (s + 1) * (s + 1)) : r = s := by
  rcases Nat.lt_trichotomy r s with h | h | h
  · have := Nat.mul_le_mul (show r + 1 ≤ s from h) (show r + 1 ≤ s from h); omega
  · exact h
  · have := Nat.mul_le_mul (show s + 1 ≤ r from h) (show s + 1 ≤ r from h); omega
theorem sq_add (a b : Int) : (a + b) * (a + b) = 4 * (a * b) + (a - b) * (a - b) := by
  simp only [Int.mul_add, Int.add_mul, Int.mul_sub, Int.sub_mul, Int.mul_comm b a]; omega
/- one step of Newton's rule stays above the root -/
theorem newton {x n : Int} (hx : 0 < x) (hn : 0 ≤ n) : n < ((x + n / x) / 2 + 1) * ((x + n / x) / 2 + 1) := by
  have hq : n < x * (n / x + 1) := by
    have h1 := Int.emod_lt_of_pos n hx
    have h2 := Int.mul_ediv_add_emod n x
    rw [Int.mul_add, Int.mul_one]; omega
  have hq0 : 0 ≤ n / x := Int.ediv_nonneg hn (by omega)
  generalize n / x = q at *
  obtain ⟨y, hy⟩ : ∃ y, y = (x + q) / 2 := ⟨_, rfl⟩
  rw [← hy]
  have e1 := sq_add x (q + 1)
  have e2 : 0 ≤ (x - (q + 1)) * (x - (q + 1)) := by
    rcases Int.le_total 0 (x - (q + 1)) with h | h
    · exact Int.mul_nonneg h h
    · have := Int.mul_nonneg (show 0 ≤ -(x - (q + 1)) by omega) (show 0 ≤ -(x - (q + 1)) by omega)
      rwa [Int.neg_mul_neg] at this
  have h3 : x + (q + 1) ≤ 2 * (y + 1) := by omega
  have h4 := Int.mul_le_mul h3 h3 (by omega) (by omega)
  have e3 : 2 * (y + 1) * (2 * (y + 1)) = 4 * ((y + 1) * (y + 1)) := by
    rw [Int.mul_assoc 2, Int.mul_left_comm (y + 1) 2, ← Int.mul_assoc 2 2]; rfl
  omega
end Go.Proofs.Ytpmfikkcidgoeaa
