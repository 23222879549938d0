/- polyline.root -/
import Derived.Test.YtpmfikkcidgoeaaLen
namespace Go.Proofs.Ytpmfikkcidgoeaa
open Go.RowKit
theorem root_start {n L : Nat} (h1 : L ≤ 63) (hx : n < 2 ^ L) : (L + 1) / 2 ≤ 32 ∧ n < 2 ^ ((L + 1) / 2) * 2 ^ ((L + 1) / 2) := by
  refine ⟨by omega, ?_⟩
  refine Nat.lt_of_lt_of_le hx ?_
  rw [← Nat.pow_add]
  exact Nat.pow_le_pow_right (by omega) (by omega)
theorem newton_step (x n : Nat) (h0 : 2 ≤ n) (hx0 : 0 < x) (hx1 : x ≤ 4294967296) (hx2 : n < (x + 1) * (x + 1)) :
    0 ≤ (n : Int) / x ∧ (n : Int) / x ≤ x + 2 ∧ ∃ y : Nat, ((x : Int) + n / x) / 2 = y ∧ 0 < y ∧ y ≤ 4294967297 ∧ n < (y + 1) * (y + 1) ∧ (x ≤ y → x * x ≤ n) := by
  have hq0 : 0 ≤ (n : Int) / x := Int.ediv_nonneg (by omega) (by omega)
  have h1 : (x : Int) * ((n : Int) / x) ≤ n := Int.mul_ediv_self_le (by omega)
  have hq1 : (n : Int) / x ≤ x + 2 := by
    have h2 : (n : Int) < (x + 1) * (x + 1) := by exact_mod_cast hx2
    rcases Int.lt_or_le ((x : Int) + 2) (n / x) with h | h
    · have h3 : (x : Int) * (x + 3) ≤ x * (n / x) := Int.mul_le_mul_of_nonneg_left (by omega) (by omega)
      simp only [Int.mul_add, Int.add_mul, Int.mul_one, Int.one_mul] at h2 h3
      omega
    · exact h
  have hy0 := newton (x := x) (n := n) (by omega) (by omega)
  have hxq : 2 ≤ (x : Int) + n / x := by
    rcases Int.lt_or_le (x + (n : Int) / x) 2 with h | h
    · obtain rfl : x = 1 := by omega
      simp at h
      omega
    · exact h
  refine ⟨hq0, hq1, (((x : Int) + n / x) / 2).toNat, ?_, by omega, by omega, ?_, ?_⟩
  · rw [Int.toNat_of_nonneg (by omega)]
  · have : (((((x : Int) + n / x) / 2).toNat : Nat) : Int) = ((x : Int) + n / x) / 2 := Int.toNat_of_nonneg (by omega)
    have h5 : (n : Int) < ((((((x : Int) + n / x) / 2).toNat : Nat) : Int) + 1) * ((((((x : Int) + n / x) / 2).toNat : Nat) : Int) + 1) := by rw [this]; exact hy0
    exact_mod_cast h5
  · intro hge
    have h3 : (x : Int) * x ≤ x * (n / x) := Int.mul_le_mul_of_nonneg_left (by omega) (by omega)
    have : (x : Int) * x ≤ n := by omega
    exact_mod_cast this
set_option maxHeartbeats 800000 in
theorem root_any (n : Nat) (w : World) (hn : n < 9223372036854775808) :
    Calls Try.prog 59 #[.int .i64 n] w fun e w' => e = .returned (.int .i64 (rootN n)) ∧ w = w' := by
  have hr := rootN_is n (by omega)
  by_cases h2 : n < 2
  · have hd : decide ((n : Int) < 2) = true := by simp; omega
    go_enter Try.func59, Try.ntmps59
    go_wp2_with fail
    go_ret
    refine ⟨ret_int ?_, rfl⟩
    have : n = 0 ∨ n = 1 := by omega
    rcases this with rfl | rfl <;> rfl
  have hd : decide ((n : Int) < 2) = false := by simp; omega
  have hwn : ((n : Int) % 18446744073709551616) = n := by omega
  go_enter Try.func59, Try.ntmps59
  go_wp2_with fail
  refine (bits_len (n : Int) _ (by omega) (by omega)).mono ?_
  rintro e w1 ⟨L, rfl, h63, hx, rfl⟩
  obtain ⟨h32, hst⟩ := root_start h63 (show n < 2 ^ L by simpa using hx)
  have hp1 : (2 : Int) ^ ((L + 1) / 2) = ((2 ^ ((L + 1) / 2) : Nat) : Int) := by simp
  obtain ⟨p, hp⟩ : ∃ p : Nat, p = 2 ^ ((L + 1) / 2) := ⟨_, rfl⟩
  have hp2 : p ≤ 4294967296 := by rw [hp]; exact Nat.pow_le_pow_right (show 0 < 2 by omega) h32
  have hp0 : 0 < p := by rw [hp]; exact Nat.pow_pos (by omega)
  have hp3 : wrap64 (2 ^ ((L + 1) / 2)) = (p : Int) := by rw [hp1, ← hp]; unfold wrap64; omega
  rw [← hp] at hst
  clear hx
  clear hp1 hp
  go_wp2_with fail
  rw [hp3]
  go_loop [3] (fun x => ∃ x' : Nat, x = .int .i64 x' ∧ 0 < x' ∧ x' ≤ 4294967296 ∧ n < (x' + 1) * (x' + 1)) (fun x => (intOf x).toNat)
  case atStart => exact ⟨p, rfl, hp0, hp2, Nat.lt_of_lt_of_le hst (Nat.mul_le_mul (by omega) (by omega))⟩
  case round =>
    obtain ⟨x, rfl, hx0, hx1, hx2⟩ := hrel
    obtain ⟨hq0, hq1, y, hy, hy0, hy1, hy2, hy3⟩ := newton_step x n (by omega) hx0 hx1 hx2
    have hnz : ((x : Int) == 0) = false := by simp; omega
    by_cases hge : x ≤ y
    · have hdg : decide ((x : Int) ≤ y) = true := by simp; omega
      go_wp2_with fail
      go_ret
      exact ⟨ret_int (by rw [root_one hr.1 hr.2 (hy3 hge) hx2]), rfl⟩
    · have hdg : decide ((x : Int) ≤ y) = false := by simp; omega
      go_wp2_with fail
      exact ⟨⟨y, by rw [hy], hy0, by omega, hy2⟩, by simp only [intOf]; omega⟩
end Go.Proofs.Ytpmfikkcidgoeaa
