/- plain: long division in base 2^32; no program in sight -/
import Derived.Test.YtnfchkkokgmliaaKBase
namespace Go.Proofs.Ytnfchkkokgmliaa
/- one digit of a long division in base 2^32 -/
theorem dg_mul (q y1 y0 : Nat) : q * (y1 * 4294967296 + y0) = (q * y1) * 4294967296 + q * y0 := by
  rw [Nat.mul_add, ← Nat.mul_assoc]
theorem dg_cond {q r u y1 y0 d : Nat} (hu : q * y1 + r = u) : 4294967296 * r + d < q * y0 ↔ u * 4294967296 + d < q * (y1 * 4294967296 + y0) := by
  rw [dg_mul, ← hu, Nat.add_mul]; omega
/- what holds at the head of the loop -/
structure Dig (u d y1 y0 q r : Nat) : Prop where
  sum : q * y1 + r = u
  rem : r < 4294967296
  le : (u * 4294967296 + d) / (y1 * 4294967296 + y0) ≤ q
  top : q ≤ 4294967297
theorem dig_start {u d y1 y0 : Nat} (h1 : 2147483648 ≤ y1) (h1' : y1 < 4294967296) (h0 : y0 < 4294967296) (hd : d < 4294967296) (hu : u < y1 * 4294967296 + y0) : Dig u d y1 y0 (u / y1) (u % y1) := by
  have e := Nat.div_add_mod u y1
  have hm : u % y1 < y1 := Nat.mod_lt _ (by omega)
  refine ⟨by rw [Nat.mul_comm]; exact e, by omega, ?_, ?_⟩
  · rw [Nat.div_le_iff_le_mul_add_pred (by omega)]
    have e2 : (u / y1) * (y1 * 4294967296 + y0) = (y1 * (u / y1)) * 4294967296 + (u / y1) * y0 := by rw [dg_mul, Nat.mul_comm (u / y1) y1]
    have e3 : (y1 * 4294967296 + y0) * (u / y1) = (y1 * (u / y1)) * 4294967296 + (u / y1) * y0 := by rw [Nat.mul_comm, e2]
    rw [e3]
    generalize u / y1 * y0 = z
    generalize y1 * (u / y1) = x at *
    omega
  · rcases Nat.lt_or_ge 4294967297 (u / y1) with h | h
    · have := Nat.mul_le_mul_left y1 (show 4294967298 ≤ u / y1 from h)
      omega
    · exact h
theorem dig_lt {u d y : Nat} (hy : 0 < y) (hd : d < 4294967296) (hu : u < y) : (u * 4294967296 + d) / y < 4294967296 := by
  rw [Nat.div_lt_iff_lt_mul hy]
  have := Nat.mul_le_mul_right 4294967296 (show u + 1 ≤ y from hu)
  rw [Nat.mul_comm 4294967296 y]; omega
theorem dig_exit {u d y1 y0 q r : Nat} (h : Dig u d y1 y0 q r) (hy : 0 < y1 * 4294967296 + y0) (hc : ¬ 4294967296 * r + d < q * y0) : q = (u * 4294967296 + d) / (y1 * 4294967296 + y0) := by
  rw [dg_cond h.sum] at hc
  have := (Nat.le_div_iff_mul_le hy).2 (Nat.not_lt.1 hc)
  have := h.le
  omega
theorem dig_down {u d y1 y0 q r : Nat} (h : Dig u d y1 y0 q r) (hy : 0 < y1 * 4294967296 + y0) (hd : d < 4294967296) (hu : u < y1 * 4294967296 + y0) (hc : 4294967296 ≤ q ∨ 4294967296 * r + d < q * y0) : (u * 4294967296 + d) / (y1 * 4294967296 + y0) ≤ q - 1 ∧ 1 ≤ q := by
  have hl := dig_lt hy hd hu
  rcases hc with hc | hc
  · omega
  · rw [dg_cond h.sum] at hc
    have := (Nat.div_lt_iff_lt_mul hy).2 hc
    generalize (u * 4294967296 + d) / (y1 * 4294967296 + y0) = Q at *
    exact ⟨by omega, by omega⟩
theorem dig_on {u d y1 y0 q r : Nat} (h : Dig u d y1 y0 q r) (hy : 0 < y1 * 4294967296 + y0) (hd : d < 4294967296) (hu : u < y1 * 4294967296 + y0) (hc : 4294967296 ≤ q ∨ 4294967296 * r + d < q * y0) (hr : r + y1 < 4294967296) : Dig u d y1 y0 (q - 1) (r + y1) := by
  obtain ⟨h1, h2⟩ := dig_down h hy hd hu hc
  refine ⟨?_, hr, h1, by have := h.top; omega⟩
  have := h.sum
  obtain ⟨p, rfl⟩ : ∃ p, q = p + 1 := ⟨q - 1, by omega⟩
  rw [Nat.add_mul, Nat.one_mul] at this
  simp only [Nat.add_sub_cancel]; omega
theorem dig_break {u d y1 y0 q r : Nat} (h : Dig u d y1 y0 q r) (hy : 0 < y1 * 4294967296 + y0) (h0 : y0 < 4294967296) (hd : d < 4294967296) (hu : u < y1 * 4294967296 + y0) (hc : 4294967296 ≤ q ∨ 4294967296 * r + d < q * y0) (hr : 4294967296 ≤ r + y1) : q - 1 = (u * 4294967296 + d) / (y1 * 4294967296 + y0) := by
  obtain ⟨h1, h2⟩ := dig_down h hy hd hu hc
  have hs : (q - 1) * y1 + (r + y1) = u := by
    have := h.sum
    obtain ⟨p, rfl⟩ : ∃ p, q = p + 1 := ⟨q - 1, by omega⟩
    rw [Nat.add_mul, Nat.one_mul] at this
    simp only [Nat.add_sub_cancel]; omega
  have hn : ¬ 4294967296 * (r + y1) + d < (q - 1) * y0 := by
    have h3 := Nat.mul_le_mul (show q - 1 ≤ 4294967296 by have := h.top; omega) (Nat.le_of_lt h0)
    omega
  rw [dg_cond hs] at hn
  have := (Nat.le_div_iff_mul_le hy).2 (Nat.not_lt.1 hn)
  omega
/- two digits -/
theorem dig_two {U y X d0 : Nat} (hy : 0 < y) (hU : U = X * 4294967296 + d0) :
    U / y = (X / y) * 4294967296 + ((X % y) * 4294967296 + d0) / y ∧ U % y = ((X % y) * 4294967296 + d0) % y := by
  have e := Nat.div_add_mod X y
  have e2 : U = (X % y * 4294967296 + d0) + y * (X / y * 4294967296) := by
    rw [hU]
    have : X * 4294967296 = (y * (X / y) + X % y) * 4294967296 := by rw [e]
    rw [this, Nat.add_mul, Nat.mul_assoc]
    generalize y * (X / y * 4294967296) = Z
    generalize X % y * 4294967296 = Y
    omega
  refine ⟨?_, ?_⟩
  · rw [e2, Nat.add_mul_div_left _ _ hy, Nat.add_comm]
  · rw [e2, Nat.add_mul_mod_self_left]
/- scaling -/
theorem scale_div (n y s : Nat) : (n * 2 ^ s) / (y * 2 ^ s) = n / y := Nat.mul_div_mul_right _ _ (Nat.pow_pos (by omega))
theorem scale_mod (n y s : Nat) : (n * 2 ^ s) % (y * 2 ^ s) / 2 ^ s = n % y := by
  rw [Nat.mul_mod_mul_right, Nat.mul_div_cancel _ (Nat.pow_pos (by omega))]
end Go.Proofs.Ytnfchkkokgmliaa
