/- math/bits.Len, and plain facts on roots -/
import Derived.Test.YtpmfikkcidgoeaaBase
import Derived.IntWalk
namespace Go.Proofs.Ytpmfikkcidgoeaa
open Go.RowKit
def tabOk (T : ByteArray) : Bool := T.size == 256 && (List.range 256).all fun k => decide (k < 2 ^ (T.data.getD k 0).toNat) && (decide ((T.data.getD k 0).toNat ≤ 8) && (decide (128 ≤ k) || decide ((T.data.getD k 0).toNat ≤ 7)))
theorem tab_get {T : ByteArray} {k : Nat} (h : k < T.size) (hT : tabOk T = true) : k < 2 ^ (T[k]'h).toNat ∧ (T[k]'h).toNat ≤ 8 ∧ (k < 128 → (T[k]'h).toNat ≤ 7) := by
  have e : T.data.getD k 0 = T[k]'h := by
    have h' : k < T.data.size := h
    simp only [Array.getD, dif_pos h']
    rfl
  unfold tabOk at hT
  rw [Bool.and_eq_true] at hT
  have hs : T.size = 256 := by simpa using hT.1
  have := List.all_eq_true.1 hT.2 k (List.mem_range.2 (by omega))
  rw [e] at this
  simp at this
  obtain ⟨a, b, c⟩ := this
  exact ⟨a, b, fun hk => by rcases c with c | c <;> omega⟩
theorem len_fin {T : ByteArray} {x y K' v : Int} {K : Nat} {w : World} (h : y.toNat < T.size) (hT : tabOk T = true) (hv : v = wrap64 (K' + wrap64 ((T[y.toNat]'h).toNat : Int))) (hK : K' = K) (hK' : K ≤ 56) (h0 : 0 ≤ x) (h1 : x ≤ 9223372036854775807) (hy : y = x / ((2 ^ K : Nat) : Int)) :
    ∃ L : Nat, Ending.returned (Value.int .i64 v) = .returned (.int .i64 (L : Int)) ∧ L ≤ 63 ∧ x.toNat < 2 ^ L ∧ w = w := by
  obtain ⟨a, b, c⟩ := tab_get h hT
  obtain ⟨t, ht⟩ : ∃ t, t = (T[y.toNat]'h).toNat := ⟨_, rfl⟩
  rw [← ht] at a b c hv
  have e : v = ((K + t : Nat) : Int) := by
    rw [hv, hK, show wrap64 (t : Int) = t from IntWalk.wrap64_in _ ⟨by omega, by omega⟩, IntWalk.wrap64_in _ ⟨by omega, by omega⟩]; omega
  refine ⟨K + t, by rw [e], ?_, ?_, rfl⟩
  · by_cases hK2 : K + 8 ≤ 63
    · omega
    · obtain rfl : K = 56 := by
        have : K ≤ 56 := hK'
        omega
      have : y.toNat < 128 := by rw [hy]; omega
      have := c this
      omega
  · have hp : 0 < 2 ^ K := Nat.pow_pos (by omega)
    have h2 : x.toNat / 2 ^ K < 2 ^ t := by
      have : y.toNat = x.toNat / 2 ^ K := by
        rw [hy]
        obtain ⟨n, rfl⟩ := Int.eq_ofNat_of_zero_le h0
        rw [← Int.natCast_ediv]; exact Int.toNat_natCast _
      rw [← this]; exact a
    rw [Nat.pow_add, Nat.mul_comm]
    exact (Nat.div_lt_iff_lt_mul hp).1 h2
theorem len_fin0 {T : ByteArray} {x y v : Int} {w : World} (h : y.toNat < T.size) (hT : tabOk T = true) (hv : v = wrap64 (wrap64 ((T[y.toNat]'h).toNat : Int))) (h0 : 0 ≤ x) (h1 : x ≤ 9223372036854775807) (hy : y = x) :
    ∃ L : Nat, Ending.returned (Value.int .i64 v) = .returned (.int .i64 (L : Int)) ∧ L ≤ 63 ∧ x.toNat < 2 ^ L ∧ w = w :=
  len_fin (K := 0) (K' := 0) h hT (by
    obtain ⟨_, b, _⟩ := tab_get h hT
    have e : wrap64 ((T[y.toNat]'h).toNat : Int) = (T[y.toNat]'h).toNat := IntWalk.wrap64_in _ ⟨by omega, by omega⟩
    rw [hv, e, Int.zero_add]) rfl (by omega) h0 h1 (by rw [hy]; simp)
set_option maxRecDepth 100000 in
set_option maxHeartbeats 1600000 in
theorem len64_any (x : Int) (w : World) (h0 : 0 ≤ x) (h1 : x ≤ 9223372036854775807) :
    Calls Try.prog 77 #[.int .u64 x] w fun e w' => ∃ L : Nat, e = .returned (.int .i64 (L : Int)) ∧ L ≤ 63 ∧ x.toNat < 2 ^ L ∧ w' = w := by
  by_cases g1 : 4294967296 ≤ x
  · by_cases g2 : 65536 ≤ x / 4294967296
    · by_cases g3 : 256 ≤ (x / 4294967296) / 65536
      · go_enter Try.func77, Try.ntmps77
        go_wp2_with fail
        go_ret
        exact len_fin (K := 56) (K' := 56) _ (by decide +kernel) rfl rfl (by omega) h0 h1 (by omega)
      · go_enter Try.func77, Try.ntmps77
        go_wp2_with fail
        go_ret
        exact len_fin (K := 48) (K' := 48) _ (by decide +kernel) rfl rfl (by omega) h0 h1 (by omega)
    · by_cases g3 : 256 ≤ x / 4294967296
      · go_enter Try.func77, Try.ntmps77
        go_wp2_with fail
        go_ret
        exact len_fin (K := 40) (K' := 40) _ (by decide +kernel) rfl rfl (by omega) h0 h1 (by omega)
      · go_enter Try.func77, Try.ntmps77
        go_wp2_with fail
        go_ret
        exact len_fin (K := 32) (K' := 32) _ (by decide +kernel) rfl rfl (by omega) h0 h1 (by omega)
  · by_cases g2 : 65536 ≤ x
    · by_cases g3 : 256 ≤ x / 65536
      · go_enter Try.func77, Try.ntmps77
        go_wp2_with fail
        go_ret
        exact len_fin (K := 24) (K' := 24) _ (by decide +kernel) rfl rfl (by omega) h0 h1 (by omega)
      · go_enter Try.func77, Try.ntmps77
        go_wp2_with fail
        go_ret
        exact len_fin (K := 16) (K' := 16) _ (by decide +kernel) rfl rfl (by omega) h0 h1 (by omega)
    · by_cases g3 : 256 ≤ x
      · go_enter Try.func77, Try.ntmps77
        go_wp2_with fail
        go_ret
        exact len_fin (K := 8) (K' := 8) _ (by decide +kernel) rfl rfl (by omega) h0 h1 (by omega)
      · go_enter Try.func77, Try.ntmps77
        go_wp2_with fail
        go_ret
        exact len_fin0 _ (by decide +kernel) rfl h0 h1 rfl
theorem bits_len (x : Int) (w : World) (h0 : 0 ≤ x) (h1 : x ≤ 9223372036854775807) :
    Calls Try.prog 68 #[.int .u64 x] w fun e w' => ∃ L : Nat, e = .returned (.int .i64 (L : Int)) ∧ L ≤ 63 ∧ x.toNat < 2 ^ L ∧ w' = w := by
  go_enter Try.func68, Try.ntmps68
  go_wp2_with fail
  refine (len64_any x _ h0 h1).mono ?_
  rintro e w1 ⟨L, rfl, hL, hx, rfl⟩
  have HL := Lib.hid hL; have HX := Lib.hid hx; clear hL hx
  go_wp2_with fail
  go_ret
  exact ⟨L, rfl, HL.out, HX.out, rfl⟩

/- the square root, binary digit by binary digit -/
def rootTo : Nat → Nat → Nat → Nat
  | 0, _, o => o
  | k + 1, n, o => if (o + 2 ^ k) * (o + 2 ^ k) ≤ n then rootTo k n (o + 2 ^ k) else rootTo k n o
def rootN (n : Nat) : Nat := rootTo 32 n 0
theorem rootTo_is : ∀ (k n o : Nat), o * o ≤ n → n < (o + 2 ^ k) * (o + 2 ^ k) →
    rootTo k n o * rootTo k n o ≤ n ∧ n < (rootTo k n o + 1) * (rootTo k n o + 1)
  | 0, n, o, h0, h1 => by simpa [rootTo] using ⟨h0, h1⟩
  | k + 1, n, o, h0, h1 => by
    simp only [rootTo]
    split
    · rename_i h
      exact rootTo_is k n _ h (by rw [Nat.add_assoc]; rw [Nat.pow_succ, Nat.mul_two] at h1; exact h1)
    · rename_i h
      exact rootTo_is k n _ h0 (by omega)
theorem rootN_is (n : Nat) (h : n < 18446744073709551616) : rootN n * rootN n ≤ n ∧ n < (rootN n + 1) * (rootN n + 1) :=
  rootTo_is 32 n 0 (by omega) (by simpa using h)
theorem root_one {n r s : Nat} (h1 : r * r ≤ n) (h2 : n < (r + 1) * (r + 1)) (h3 : s * s ≤ n) (h4 : n < (s + 1) * (s + 1)) : r = s := by
  rcases Nat.lt_trichotomy r s with h | h | h
  · have := Nat.mul_le_mul (show r + 1 ≤ s from h) (show r + 1 ≤ s from h); omega
  · exact h
  · have := Nat.mul_le_mul (show s + 1 ≤ r from h) (show s + 1 ≤ r from h); omega
theorem sq_add (a b : Int) : (a + b) * (a + b) = 4 * (a * b) + (a - b) * (a - b) := by
  simp only [Int.mul_add, Int.add_mul, Int.mul_sub, Int.sub_mul, Int.mul_comm b a]; omega
/- one step of Newton's rule stays above the root -/
theorem newton {x n : Int} (hx : 0 < x) (hn : 0 ≤ n) : n < ((x + n / x) / 2 + 1) * ((x + n / x) / 2 + 1) := by
  have hq : n < x * (n / x + 1) := by
    have h1 := Int.emod_lt_of_pos n hx
    have h2 := Int.mul_ediv_add_emod n x
    rw [Int.mul_add, Int.mul_one]; omega
  have hq0 : 0 ≤ n / x := Int.ediv_nonneg hn (by omega)
  generalize n / x = q at *
  obtain ⟨y, hy⟩ : ∃ y, y = (x + q) / 2 := ⟨_, rfl⟩
  rw [← hy]
  have e1 := sq_add x (q + 1)
  have e2 : 0 ≤ (x - (q + 1)) * (x - (q + 1)) := by
    rcases Int.le_total 0 (x - (q + 1)) with h | h
    · exact Int.mul_nonneg h h
    · have := Int.mul_nonneg (show 0 ≤ -(x - (q + 1)) by omega) (show 0 ≤ -(x - (q + 1)) by omega)
      rwa [Int.neg_mul_neg] at this
  have h3 : x + (q + 1) ≤ 2 * (y + 1) := by omega
  have h4 := Int.mul_le_mul h3 h3 (by omega) (by omega)
  have e3 : 2 * (y + 1) * (2 * (y + 1)) = 4 * ((y + 1) * (y + 1)) := by
    rw [Int.mul_assoc 2, Int.mul_left_comm (y + 1) 2, ← Int.mul_assoc 2 2]; rfl
  omega
end Go.Proofs.Ytpmfikkcidgoeaa
