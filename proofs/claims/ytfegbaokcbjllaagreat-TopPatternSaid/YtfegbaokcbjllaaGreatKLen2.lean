/- math/bits.Len64 exactly, LeadingZeros64 -/
import Derived.IntWalk
import Derived.Test.YtfegbaokcbjllaaGreatKBase
namespace Go.Proofs.YtfegbaokcbjllaaGreat
open Go.RowKit
def tabOx (T : ByteArray) : Bool := T.size == 256 && (List.range 256).all fun k => decide (k < 2 ^ (T.data.getD k 0).toNat) && (decide ((T.data.getD k 0).toNat ≤ 8) && (decide (k = 0) || (decide (1 ≤ (T.data.getD k 0).toNat) && decide (2 ^ ((T.data.getD k 0).toNat - 1) ≤ k))))
theorem tab_gex {T : ByteArray} {k : Nat} (h : k < T.size) (hT : tabOx T = true) : k < 2 ^ (T[k]'h).toNat ∧ (T[k]'h).toNat ≤ 8 ∧ (0 < k → 1 ≤ (T[k]'h).toNat ∧ 2 ^ ((T[k]'h).toNat - 1) ≤ k) := by
 have e : T.data.getD k 0 = T[k]'h := by
  have h' : k < T.data.size := h
  simp only [Array.getD, dif_pos h']
  rfl
 unfold tabOx at hT
 rw [Bool.and_eq_true] at hT
 have hs : T.size = 256 := by simpa using hT.1
 have := List.all_eq_true.1 hT.2 k (List.mem_range.2 (by omega))
 rw [e] at this
 simp at this
 obtain ⟨a, b, c⟩ := this
 exact ⟨a, b, fun hk => by rcases c with c | c; omega; exact c⟩
def LenIs (x : Int) (L : Nat) : Prop := L ≤ 63 ∧ x.toNat < 2 ^ L ∧ 1 ≤ L ∧ 2 ^ (L - 1) ≤ x.toNat
theorem len_fix {T : ByteArray} {x y K' v : Int} {K : Nat} {w : World} (h : y.toNat < T.size) (hT : tabOx T = true) (hv : v = wrap64 (K' + wrap64 ((T[y.toNat]'h).toNat : Int))) (hK : K' = K) (hK' : K ≤ 56) (h0 : 0 < x) (h1 : x ≤ 9223372036854775807) (hy : y = x / ((2 ^ K : Nat) : Int)) (hy0 : 0 < y) :
  ∃ L : Nat, Ending.returned (Value.int .i64 v) = .returned (.int .i64 (L : Int)) ∧ LenIs x L ∧ w = w := by
 obtain ⟨a, b, c⟩ := tab_gex h hT
 obtain ⟨c0, c⟩ := c (by omega)
 obtain ⟨t, ht⟩ : ∃ t, t = (T[y.toNat]'h).toNat := ⟨_, rfl⟩
 rw [← ht] at a b c c0 hv
 have e : v = ((K + t : Nat) : Int) := by
  rw [hv, hK, show wrap64 (t : Int) = t from IntWalk.wrap64_in _ ⟨by omega, by omega⟩, IntWalk.wrap64_in _ ⟨by omega, by omega⟩]; omega
 have hp : 0 < 2 ^ K := Nat.pow_pos (by omega)
 have hyn : y.toNat = x.toNat / 2 ^ K := by
  rw [hy]
  obtain ⟨n, rfl⟩ := Int.eq_ofNat_of_zero_le (show 0 ≤ x by omega)
  rw [← Int.natCast_ediv]; exact Int.toNat_natCast _
 have hlo : 2 ^ (K + t - 1) ≤ x.toNat := by
  rw [show K + t - 1 = K + (t - 1) by omega, Nat.pow_add]
  have h3 := Nat.mul_le_mul_left (2 ^ K) c
  rw [hyn] at h3
  exact Nat.le_trans h3 (Nat.mul_div_le _ _)
 refine ⟨K + t, by rw [e], ⟨?_, ?_, by omega, hlo⟩, rfl⟩
 ·rcases Nat.lt_or_ge 63 (K + t) with h5 | h5
  ·have h6 : 2 ^ 63 ≤ 2 ^ (K + t - 1) := Nat.pow_le_pow_right (by omega) (by omega)
   have h7 : x.toNat < 2 ^ 63 := by omega
   omega
  ·exact h5
 ·rw [hyn] at a
  rw [Nat.pow_add, Nat.mul_comm]
  exact (Nat.div_lt_iff_lt_mul hp).1 a
theorem len_fix0 {T : ByteArray} {x y v : Int} {w : World} (h : y.toNat < T.size) (hT : tabOx T = true) (hv : v = wrap64 (wrap64 ((T[y.toNat]'h).toNat : Int))) (h0 : 0 < x) (h1 : x ≤ 9223372036854775807) (hy : y = x) :
  ∃ L : Nat, Ending.returned (Value.int .i64 v) = .returned (.int .i64 (L : Int)) ∧ LenIs x L ∧ w = w :=
 len_fix (K := 0) (K' := 0) h hT (by
  obtain ⟨_, b, _⟩ := tab_gex h hT
  have e : wrap64 ((T[y.toNat]'h).toNat : Int) = (T[y.toNat]'h).toNat := IntWalk.wrap64_in _ ⟨by omega, by omega⟩
  rw [hv, e, Int.zero_add]) rfl (by omega) h0 h1 (by rw [hy]; simp) (by omega)
set_option maxRecDepth 100000 in
set_option maxHeartbeats 1600000 in
theorem len64_ex (x : Int) (w : World) (h0 : 0 < x) (h1 : x ≤ 9223372036854775807) :
  Calls Tryz.prog 117 #[.int .u64 x] w fun e w' => ∃ L : Nat, e = .returned (.int .i64 (L : Int)) ∧ LenIs x L ∧ w' = w := by
 by_cases g1 : 4294967296 ≤ x
 ·by_cases g2 : 65536 ≤ x / 4294967296
  ·by_cases g3 : 256 ≤ (x / 4294967296) / 65536
   ·go_enter Tryz.func117, Tryz.ntmps117
    go_wp2_with fail
    go_ret
    exact len_fix (K := 56) (K' := 56) _ (by decide +kernel) rfl rfl (by omega) h0 h1 (by omega) (by omega)
   ·go_enter Tryz.func117, Tryz.ntmps117
    go_wp2_with fail
    go_ret
    exact len_fix (K := 48) (K' := 48) _ (by decide +kernel) rfl rfl (by omega) h0 h1 (by omega) (by omega)
  ·by_cases g3 : 256 ≤ x / 4294967296
   ·go_enter Tryz.func117, Tryz.ntmps117
    go_wp2_with fail
    go_ret
    exact len_fix (K := 40) (K' := 40) _ (by decide +kernel) rfl rfl (by omega) h0 h1 (by omega) (by omega)
   ·go_enter Tryz.func117, Tryz.ntmps117
    go_wp2_with fail
    go_ret
    exact len_fix (K := 32) (K' := 32) _ (by decide +kernel) rfl rfl (by omega) h0 h1 (by omega) (by omega)
 ·by_cases g2 : 65536 ≤ x
  ·by_cases g3 : 256 ≤ x / 65536
   ·go_enter Tryz.func117, Tryz.ntmps117
    go_wp2_with fail
    go_ret
    exact len_fix (K := 24) (K' := 24) _ (by decide +kernel) rfl rfl (by omega) h0 h1 (by omega) (by omega)
   ·go_enter Tryz.func117, Tryz.ntmps117
    go_wp2_with fail
    go_ret
    exact len_fix (K := 16) (K' := 16) _ (by decide +kernel) rfl rfl (by omega) h0 h1 (by omega) (by omega)
  ·by_cases g3 : 256 ≤ x
   ·go_enter Tryz.func117, Tryz.ntmps117
    go_wp2_with fail
    go_ret
    exact len_fix (K := 8) (K' := 8) _ (by decide +kernel) rfl rfl (by omega) h0 h1 (by omega) (by omega)
   ·go_enter Tryz.func117, Tryz.ntmps117
    go_wp2_with fail
    go_ret
    exact len_fix0 _ (by decide +kernel) rfl h0 h1 rfl
theorem lz64_any (x : Int) (w : World) (h0 : 0 < x) (h1 : x ≤ 9223372036854775807) :
  Calls Tryz.prog 118 #[.int .u64 x] w fun e w' => ∃ L : Nat, e = .returned (.int .i64 ((64 - L : Nat) : Int)) ∧ LenIs x L ∧ w' = w := by
 go_enter Tryz.func118, Tryz.ntmps118
 go_wp2_with fail
 refine (len64_ex x _ h0 h1).mono ?_
 rintro e w1 ⟨L, rfl, hL, rfl⟩
 have hL63 := hL.1
 have HL := Lib.hid hL; clear hL
 go_wp2_with fail
 go_ret
 exact ⟨L, ret_int (by omega), HL.out, rfl⟩
end Go.Proofs.YtfegbaokcbjllaaGreat
