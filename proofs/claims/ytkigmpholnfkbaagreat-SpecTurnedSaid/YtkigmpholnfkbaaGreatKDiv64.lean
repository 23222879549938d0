/- math/bits.Div64 -/
import Derived.IntWalk
import Derived.Lib.Mul64
import Derived.Laws.Bits64b
import Derived.Deep.CutRange
import Derived.Deep.CutBlock
import Derived.Test.YtkigmpholnfkbaaGreatKBase
/- math/bits.Len64 exactly, LeadingZeros64 -/
namespace Go.Proofs.YtkigmpholnfkbaaGreat
open Go.RowKit
def tabOx (T : ByteArray) : Bool := T.size == 256 && (List.range 256).all fun k => decide (k < 2 ^ (T.data.getD k 0).toNat) && (decide ((T.data.getD k 0).toNat ≤ 8) && (decide (k = 0) || (decide (1 ≤ (T.data.getD k 0).toNat) && decide (2 ^ ((T.data.getD k 0).toNat - 1) ≤ k))))
theorem tab_gex {T : ByteArray} {k : Nat} (h : k < T.size) (hT : tabOx T = true) : k < 2 ^ (T[k]'h).toNat ∧ (T[k]'h).toNat ≤ 8 ∧ (0 < k → 1 ≤ (T[k]'h).toNat ∧ 2 ^ ((T[k]'h).toNat - 1) ≤ k) := by
  have e : T.data.getD k 0 = T[k]'h := by
    have h' : k < T.data.size := h
    simp only [Array.getD, dif_pos h']
    rfl
  unfold tabOx at hT
  rw [Bool.and_eq_true] at hT
  have hs : T.size = 256 := by simpa using hT.1
  have := List.all_eq_true.1 hT.2 k (List.mem_range.2 (by omega))
  rw [e] at this
  simp at this
  obtain ⟨a, b, c⟩ := this
  exact ⟨a, b, fun hk => by rcases c with c | c; omega; exact c⟩
def LenIs (x : Int) (L : Nat) : Prop := L ≤ 63 ∧ x.toNat < 2 ^ L ∧ 1 ≤ L ∧ 2 ^ (L - 1) ≤ x.toNat
theorem len_fix {T : ByteArray} {x y K' v : Int} {K : Nat} {w : World} (h : y.toNat < T.size) (hT : tabOx T = true) (hv : v = wrap64 (K' + wrap64 ((T[y.toNat]'h).toNat : Int))) (hK : K' = K) (hK' : K ≤ 56) (h0 : 0 < x) (h1 : x ≤ 9223372036854775807) (hy : y = x / ((2 ^ K : Nat) : Int)) (hy0 : 0 < y) :
    ∃ L : Nat, Ending.returned (Value.int .i64 v) = .returned (.int .i64 (L : Int)) ∧ LenIs x L ∧ w = w := by
  obtain ⟨a, b, c⟩ := tab_gex h hT
  obtain ⟨c0, c⟩ := c (by omega)
  obtain ⟨t, ht⟩ : ∃ t, t = (T[y.toNat]'h).toNat := ⟨_, rfl⟩
  rw [← ht] at a b c c0 hv
  have e : v = ((K + t : Nat) : Int) := by
    rw [hv, hK, show wrap64 (t : Int) = t from IntWalk.wrap64_in _ ⟨by omega, by omega⟩, IntWalk.wrap64_in _ ⟨by omega, by omega⟩]; omega
  have hp : 0 < 2 ^ K := Nat.pow_pos (by omega)
  have hyn : y.toNat = x.toNat / 2 ^ K := by
    rw [hy]
    obtain ⟨n, rfl⟩ := Int.eq_ofNat_of_zero_le (show 0 ≤ x by omega)
    rw [← Int.natCast_ediv]; exact Int.toNat_natCast _
  have hlo : 2 ^ (K + t - 1) ≤ x.toNat := by
    rw [show K + t - 1 = K + (t - 1) by omega, Nat.pow_add]
    have h3 := Nat.mul_le_mul_left (2 ^ K) c
    rw [hyn] at h3
    exact Nat.le_trans h3 (Nat.mul_div_le _ _)
  refine ⟨K + t, by rw [e], ⟨?_, ?_, by omega, hlo⟩, rfl⟩
  · rcases Nat.lt_or_ge 63 (K + t) with h5 | h5
    · have h6 : 2 ^ 63 ≤ 2 ^ (K + t - 1) := Nat.pow_le_pow_right (by omega) (by omega)
      have h7 : x.toNat < 2 ^ 63 := by omega
      omega
    · exact h5
  · rw [hyn] at a
    rw [Nat.pow_add, Nat.mul_comm]
    exact (Nat.div_lt_iff_lt_mul hp).1 a
theorem len_fix0 {T : ByteArray} {x y v : Int} {w : World} (h : y.toNat < T.size) (hT : tabOx T = true) (hv : v = wrap64 (wrap64 ((T[y.toNat]'h).toNat : Int))) (h0 : 0 < x) (h1 : x ≤ 9223372036854775807) (hy : y = x) :
    ∃ L : Nat, Ending.returned (Value.int .i64 v) = .returned (.int .i64 (L : Int)) ∧ LenIs x L ∧ w = w :=
  len_fix (K := 0) (K' := 0) h hT (by
    obtain ⟨_, b, _⟩ := tab_gex h hT
    have e : wrap64 ((T[y.toNat]'h).toNat : Int) = (T[y.toNat]'h).toNat := IntWalk.wrap64_in _ ⟨by omega, by omega⟩
    rw [hv, e, Int.zero_add]) rfl (by omega) h0 h1 (by rw [hy]; simp) (by omega)
set_option maxRecDepth 100000 in
set_option maxHeartbeats 1600000 in
theorem len64_ex (x : Int) (w : World) (h0 : 0 < x) (h1 : x ≤ 9223372036854775807) :
    Calls Tryz.prog 113 #[.int .u64 x] w fun e w' => ∃ L : Nat, e = .returned (.int .i64 (L : Int)) ∧ LenIs x L ∧ w' = w := by
  by_cases g1 : 4294967296 ≤ x
  · by_cases g2 : 65536 ≤ x / 4294967296
    · by_cases g3 : 256 ≤ (x / 4294967296) / 65536
      · go_enter Tryz.func113, Tryz.ntmps113
        go_wp2_with fail
        go_ret
        exact len_fix (K := 56) (K' := 56) _ (by decide +kernel) rfl rfl (by omega) h0 h1 (by omega) (by omega)
      · go_enter Tryz.func113, Tryz.ntmps113
        go_wp2_with fail
        go_ret
        exact len_fix (K := 48) (K' := 48) _ (by decide +kernel) rfl rfl (by omega) h0 h1 (by omega) (by omega)
    · by_cases g3 : 256 ≤ x / 4294967296
      · go_enter Tryz.func113, Tryz.ntmps113
        go_wp2_with fail
        go_ret
        exact len_fix (K := 40) (K' := 40) _ (by decide +kernel) rfl rfl (by omega) h0 h1 (by omega) (by omega)
      · go_enter Tryz.func113, Tryz.ntmps113
        go_wp2_with fail
        go_ret
        exact len_fix (K := 32) (K' := 32) _ (by decide +kernel) rfl rfl (by omega) h0 h1 (by omega) (by omega)
  · by_cases g2 : 65536 ≤ x
    · by_cases g3 : 256 ≤ x / 65536
      · go_enter Tryz.func113, Tryz.ntmps113
        go_wp2_with fail
        go_ret
        exact len_fix (K := 24) (K' := 24) _ (by decide +kernel) rfl rfl (by omega) h0 h1 (by omega) (by omega)
      · go_enter Tryz.func113, Tryz.ntmps113
        go_wp2_with fail
        go_ret
        exact len_fix (K := 16) (K' := 16) _ (by decide +kernel) rfl rfl (by omega) h0 h1 (by omega) (by omega)
    · by_cases g3 : 256 ≤ x
      · go_enter Tryz.func113, Tryz.ntmps113
        go_wp2_with fail
        go_ret
        exact len_fix (K := 8) (K' := 8) _ (by decide +kernel) rfl rfl (by omega) h0 h1 (by omega) (by omega)
      · go_enter Tryz.func113, Tryz.ntmps113
        go_wp2_with fail
        go_ret
        exact len_fix0 _ (by decide +kernel) rfl h0 h1 rfl
theorem lz64_any (x : Int) (w : World) (h0 : 0 < x) (h1 : x ≤ 9223372036854775807) :
    Calls Tryz.prog 142 #[.int .u64 x] w fun e w' => ∃ L : Nat, e = .returned (.int .i64 ((64 - L : Nat) : Int)) ∧ LenIs x L ∧ w' = w := by
  go_enter Tryz.func142, Tryz.ntmps142
  go_wp2_with fail
  refine (len64_ex x _ h0 h1).mono ?_
  rintro e w1 ⟨L, rfl, hL, rfl⟩
  have hL63 := hL.1
  have HL := Lib.hid hL; clear hL
  go_wp2_with fail
  go_ret
  exact ⟨L, ret_int (by omega), HL.out, rfl⟩
end Go.Proofs.YtkigmpholnfkbaaGreat
/- plain: long division in base 2^32; no program in sight -/
namespace Go.Proofs.YtkigmpholnfkbaaGreat
/- one digit of a long division in base 2^32 -/
theorem dg_mul (q y1 y0 : Nat) : q * (y1 * 4294967296 + y0) = (q * y1) * 4294967296 + q * y0 := by
  rw [Nat.mul_add, ← Nat.mul_assoc]
theorem dg_cond {q r u y1 y0 d : Nat} (hu : q * y1 + r = u) : 4294967296 * r + d < q * y0 ↔ u * 4294967296 + d < q * (y1 * 4294967296 + y0) := by
  rw [dg_mul, ← hu, Nat.add_mul]; omega
/- what holds at the head of the loop -/
structure Dig (u d y1 y0 q r : Nat) : Prop where
  sum : q * y1 + r = u
  rem : r < 4294967296
  le : (u * 4294967296 + d) / (y1 * 4294967296 + y0) ≤ q
  top : q ≤ 4294967297
theorem dig_start {u d y1 y0 : Nat} (h1 : 2147483648 ≤ y1) (h1' : y1 < 4294967296) (h0 : y0 < 4294967296) (hd : d < 4294967296) (hu : u < y1 * 4294967296 + y0) : Dig u d y1 y0 (u / y1) (u % y1) := by
  have e := Nat.div_add_mod u y1
  have hm : u % y1 < y1 := Nat.mod_lt _ (by omega)
  refine ⟨by rw [Nat.mul_comm]; exact e, by omega, ?_, ?_⟩
  · rw [Nat.div_le_iff_le_mul_add_pred (by omega)]
    have e2 : (u / y1) * (y1 * 4294967296 + y0) = (y1 * (u / y1)) * 4294967296 + (u / y1) * y0 := by rw [dg_mul, Nat.mul_comm (u / y1) y1]
    have e3 : (y1 * 4294967296 + y0) * (u / y1) = (y1 * (u / y1)) * 4294967296 + (u / y1) * y0 := by rw [Nat.mul_comm, e2]
    rw [e3]
    generalize u / y1 * y0 = z
    generalize y1 * (u / y1) = x at *
    omega
  · rcases Nat.lt_or_ge 4294967297 (u / y1) with h | h
    · have := Nat.mul_le_mul_left y1 (show 4294967298 ≤ u / y1 from h)
      omega
    · exact h
theorem dig_lt {u d y : Nat} (hy : 0 < y) (hd : d < 4294967296) (hu : u < y) : (u * 4294967296 + d) / y < 4294967296 := by
  rw [Nat.div_lt_iff_lt_mul hy]
  have := Nat.mul_le_mul_right 4294967296 (show u + 1 ≤ y from hu)
  rw [Nat.mul_comm 4294967296 y]; omega
theorem dig_exit {u d y1 y0 q r : Nat} (h : Dig u d y1 y0 q r) (hy : 0 < y1 * 4294967296 + y0) (hc : ¬ 4294967296 * r + d < q * y0) : q = (u * 4294967296 + d) / (y1 * 4294967296 + y0) := by
  rw [dg_cond h.sum] at hc
  have := (Nat.le_div_iff_mul_le hy).2 (Nat.not_lt.1 hc)
  have := h.le
  omega
theorem dig_down {u d y1 y0 q r : Nat} (h : Dig u d y1 y0 q r) (hy : 0 < y1 * 4294967296 + y0) (hd : d < 4294967296) (hu : u < y1 * 4294967296 + y0) (hc : 4294967296 ≤ q ∨ 4294967296 * r + d < q * y0) : (u * 4294967296 + d) / (y1 * 4294967296 + y0) ≤ q - 1 ∧ 1 ≤ q := by
  have hl := dig_lt hy hd hu
  rcases hc with hc | hc
  · omega
  · rw [dg_cond h.sum] at hc
    have := (Nat.div_lt_iff_lt_mul hy).2 hc
    generalize (u * 4294967296 + d) / (y1 * 4294967296 + y0) = Q at *
    exact ⟨by omega, by omega⟩
theorem dig_on {u d y1 y0 q r : Nat} (h : Dig u d y1 y0 q r) (hy : 0 < y1 * 4294967296 + y0) (hd : d < 4294967296) (hu : u < y1 * 4294967296 + y0) (hc : 4294967296 ≤ q ∨ 4294967296 * r + d < q * y0) (hr : r + y1 < 4294967296) : Dig u d y1 y0 (q - 1) (r + y1) := by
  obtain ⟨h1, h2⟩ := dig_down h hy hd hu hc
  refine ⟨?_, hr, h1, by have := h.top; omega⟩
  have := h.sum
  obtain ⟨p, rfl⟩ : ∃ p, q = p + 1 := ⟨q - 1, by omega⟩
  rw [Nat.add_mul, Nat.one_mul] at this
  simp only [Nat.add_sub_cancel]; omega
theorem dig_break {u d y1 y0 q r : Nat} (h : Dig u d y1 y0 q r) (hy : 0 < y1 * 4294967296 + y0) (h0 : y0 < 4294967296) (hd : d < 4294967296) (hu : u < y1 * 4294967296 + y0) (hc : 4294967296 ≤ q ∨ 4294967296 * r + d < q * y0) (hr : 4294967296 ≤ r + y1) : q - 1 = (u * 4294967296 + d) / (y1 * 4294967296 + y0) := by
  obtain ⟨h1, h2⟩ := dig_down h hy hd hu hc
  have hs : (q - 1) * y1 + (r + y1) = u := by
    have := h.sum
    obtain ⟨p, rfl⟩ : ∃ p, q = p + 1 := ⟨q - 1, by omega⟩
    rw [Nat.add_mul, Nat.one_mul] at this
    simp only [Nat.add_sub_cancel]; omega
  have hn : ¬ 4294967296 * (r + y1) + d < (q - 1) * y0 := by
    have h3 := Nat.mul_le_mul (show q - 1 ≤ 4294967296 by have := h.top; omega) (Nat.le_of_lt h0)
    omega
  rw [dg_cond hs] at hn
  have := (Nat.le_div_iff_mul_le hy).2 (Nat.not_lt.1 hn)
  omega
/- two digits -/
theorem dig_two {U y X d0 : Nat} (hy : 0 < y) (hU : U = X * 4294967296 + d0) :
    U / y = (X / y) * 4294967296 + ((X % y) * 4294967296 + d0) / y ∧ U % y = ((X % y) * 4294967296 + d0) % y := by
  have e := Nat.div_add_mod X y
  have e2 : U = (X % y * 4294967296 + d0) + y * (X / y * 4294967296) := by
    rw [hU]
    have : X * 4294967296 = (y * (X / y) + X % y) * 4294967296 := by rw [e]
    rw [this, Nat.add_mul, Nat.mul_assoc]
    generalize y * (X / y * 4294967296) = Z
    generalize X % y * 4294967296 = Y
    omega
  refine ⟨?_, ?_⟩
  · rw [e2, Nat.add_mul_div_left _ _ hy, Nat.add_comm]
  · rw [e2, Nat.add_mul_mod_self_left]
/- scaling -/
theorem scale_div (n y s : Nat) : (n * 2 ^ s) / (y * 2 ^ s) = n / y := Nat.mul_div_mul_right _ _ (Nat.pow_pos (by omega))
theorem scale_mod (n y s : Nat) : (n * 2 ^ s) % (y * 2 ^ s) / 2 ^ s = n % y := by
  rw [Nat.mul_mod_mul_right, Nat.mul_div_cancel _ (Nat.pow_pos (by omega))]
end Go.Proofs.YtkigmpholnfkbaaGreat
/- math/bits.Mul64 -/
namespace Go.Proofs.YtkigmpholnfkbaaGreat
open Go.RowKit
theorem u64_mask (a : Nat) (ha : a < 18446744073709551616) : bits .and .u64 (a : Int) 4294967295 = ((a % 4294967296 : Nat) : Int) := by
  have h := bits_and_u64_nat a 4294967295 ha (by omega)
  have e : a &&& 4294967295 = a % 4294967296 := Nat.and_two_pow_sub_one_eq_mod a 32
  rw [e] at h
  exact h
theorem u64_div (a : Nat) : (a : Int) / 4294967296 = ((a / 4294967296 : Nat) : Int) := by omega
theorem u64_mul (a b : Nat) : (a : Int) * (b : Int) = ((a * b : Nat) : Int) := (Int.natCast_mul a b).symm
theorem u64_add (a b : Nat) : (a : Int) + (b : Int) = ((a + b : Nat) : Int) := (Int.natCast_add a b).symm
theorem u64_wrap (a : Nat) (ha : a < 18446744073709551616) : IntKind.u64.wrap (a : Int) = (a : Int) := by rw [IntKind.wrap_u64]; omega
theorem u64_mod (a : Nat) : IntKind.u64.wrap (a : Int) = ((a % 18446744073709551616 : Nat) : Int) := by rw [IntKind.wrap_u64]; omega
set_option maxHeartbeats 1000000 in
theorem mul64_any (x y : Nat) (hx : x < 18446744073709551616) (hy : y < 18446744073709551616) (w : World) :
    Calls Tryz.prog 125 #[.int .u64 x, .int .u64 y] w fun e w' => e = .returned (.tuple #[.int .u64 ((x * y / 18446744073709551616 : Nat) : Int), .int .u64 ((x * y % 18446744073709551616 : Nat) : Int)]) ∧ w' = w := by
  obtain ⟨bd, bt, bw, hhi⟩ := Lib.mul64_hi x y hx hy
  have ba := Lib.half_mul_le (a := x / 4294967296) (b := y / 4294967296) (by omega) (by omega)
  have bb := Lib.half_mul_le (a := x / 4294967296) (b := y % 4294967296) (by omega) (by omega)
  have bc := Lib.half_mul_le (a := x % 4294967296) (b := y / 4294967296) (by omega) (by omega)
  have ba' : x / 4294967296 * (y / 4294967296) < 18446744073709551616 := by omega
  have bb' : x / 4294967296 * (y % 4294967296) < 18446744073709551616 := by omega
  have bc' : x % 4294967296 * (y / 4294967296) < 18446744073709551616 := by omega
  have bh1 : x / 4294967296 * (y / 4294967296) + (x / 4294967296 * (y % 4294967296) + x % 4294967296 * (y % 4294967296) / 4294967296) / 4294967296 < 18446744073709551616 := by omega
  have bh : x / 4294967296 * (y / 4294967296) + (x / 4294967296 * (y % 4294967296) + x % 4294967296 * (y % 4294967296) / 4294967296) / 4294967296 + ((x / 4294967296 * (y % 4294967296) + x % 4294967296 * (y % 4294967296) / 4294967296) % 4294967296 + x % 4294967296 * (y / 4294967296)) / 4294967296 < 18446744073709551616 := by omega
  go_enter Tryz.func125, Tryz.ntmps125
  go_wp2_with fail
  simp only [u64_mask x hx, u64_mask y hy, u64_div, u64_mul, u64_add, u64_wrap _ bd, u64_wrap _ bb', u64_wrap _ bt, u64_mask _ bt, u64_wrap _ bc', u64_wrap _ bw, u64_wrap _ ba', u64_wrap _ bh1, u64_wrap _ bh, u64_mod (x * y)]
  rw [hhi]
  go_ret2
  exact ⟨rfl, rfl⟩
end Go.Proofs.YtkigmpholnfkbaaGreat
namespace Go.Proofs.YtkigmpholnfkbaaGreat
open Go.RowKit
/- the numbers of the long division, made ready: s = 64 - L -/
structure Ready (hi lo y L Y U D1 D0 : Nat) : Prop where
  top : Y < 18446744073709551616
  low : 9223372036854775808 ≤ Y
  hY : Y = y * 2 ^ (64 - L)
  hi1 : hi * 2 ^ (64 - L) < 18446744073709551616
  hU : U = hi * 2 ^ (64 - L) + lo / 2 ^ L
  hU' : hi * 2 ^ (64 - L) ||| lo / 2 ^ L = U
  lt : U < Y
  h1 : D1 = lo * 2 ^ (64 - L) % 18446744073709551616 / 4294967296
  h0 : D0 = lo * 2 ^ (64 - L) % 18446744073709551616 % 4294967296
  all : (hi * 18446744073709551616 + lo) * 2 ^ (64 - L) = (U * 4294967296 + D1) * 4294967296 + D0
theorem ready {hi lo y L : Nat} (hlo : lo < 18446744073709551616) (hhi : hi < y) (h : LenIs (y : Int) L) :
    Ready hi lo y L (y * 2 ^ (64 - L)) (hi * 2 ^ (64 - L) + lo / 2 ^ L) (lo * 2 ^ (64 - L) % 18446744073709551616 / 4294967296) (lo * 2 ^ (64 - L) % 18446744073709551616 % 4294967296) := by
  obtain ⟨h63, hlt, hL1, hge⟩ := h
  rw [Int.toNat_natCast] at hlt hge
  have e64 : 2 ^ L * 2 ^ (64 - L) = 18446744073709551616 := by rw [← Nat.pow_add, show L + (64 - L) = 64 by omega]
  have e63 : 2 ^ (L - 1) * 2 ^ (64 - L) = 9223372036854775808 := by rw [← Nat.pow_add, show L - 1 + (64 - L) = 63 by omega]
  have hp : 0 < 2 ^ (64 - L) := Nat.pow_pos (by omega)
  have hpL : 0 < 2 ^ L := Nat.pow_pos (by omega)
  have hq : lo / 2 ^ L < 2 ^ (64 - L) := by rw [Nat.div_lt_iff_lt_mul hpL, Nat.mul_comm, e64]; exact hlo
  have hdiv : lo * 2 ^ (64 - L) / 18446744073709551616 = lo / 2 ^ L := by rw [← e64]; exact Nat.mul_div_mul_right _ _ hp
  have hdm := Nat.div_add_mod (lo * 2 ^ (64 - L)) 18446744073709551616
  rw [hdiv] at hdm
  refine ⟨?_, ?_, rfl, ?_, rfl, ?_, ?_, rfl, rfl, ?_⟩
  · rw [← e64]; exact Nat.mul_lt_mul_of_pos_right hlt hp
  · rw [← e63]; exact Nat.mul_le_mul_right _ hge
  · rw [← e64]; exact Nat.mul_lt_mul_of_pos_right (Nat.lt_trans hhi hlt) hp
  · rw [Nat.mul_comm hi, Nat.two_pow_add_eq_or_of_lt hq]
  · have := Nat.mul_le_mul_right (2 ^ (64 - L)) (show hi + 1 ≤ y from hhi)
    rw [Nat.add_mul, Nat.one_mul] at this
    omega
  · generalize lo * 2 ^ (64 - L) % 18446744073709551616 = z at *
    rw [Nat.add_mul (hi * 18446744073709551616), Nat.mul_right_comm]
    generalize lo * 2 ^ (64 - L) = x at *
    generalize hi * 2 ^ (64 - L) = u at *
    generalize lo / 2 ^ L = v at *
    omega
theorem u64_shl (a k : Nat) : IntKind.u64.wrap ((a : Int) * 2 ^ k) = ((a * 2 ^ k % 18446744073709551616 : Nat) : Int) := by rw [← u64_mod]; simp
theorem sub_mod {u y : Nat} (hu : u < 18446744073709551616) : IntKind.u64.wrap ((u : Int) - IntKind.u64.wrap (((u / y : Nat) : Int) * (y : Int))) = ((u % y : Nat) : Int) := by
  have e := Nat.div_add_mod u y
  rw [Nat.mul_comm] at e
  rw [← Int.natCast_mul]
  generalize u / y * y = z at *
  generalize u % y = m at *
  rw [IntKind.wrap_u64, IntKind.wrap_u64]
  omega
theorem dig_rest {U D Q Y V : Nat} (h : Q * Y + V = U * 4294967296 + D) (hV : V < 18446744073709551616) :
    IntKind.u64.wrap (IntKind.u64.wrap (IntKind.u64.wrap ((U : Int) * 4294967296) + (D : Int)) - IntKind.u64.wrap ((Q : Int) * (Y : Int))) = (V : Int) := by
  rw [← Int.natCast_mul]
  generalize Q * Y = z at *
  simp only [IntKind.wrap_u64]
  omega
theorem u64_shr (a k : Nat) : (a : Int) / 2 ^ k = ((a / 2 ^ k : Nat) : Int) := by simp
set_option maxRecDepth 100000 in
set_option maxHeartbeats 1600000 in
theorem div64_any (hi lo y : Nat) (w : World) (hlo : lo < 18446744073709551616) (hhi : hi < y) (hy : y ≤ 9223372036854775807) :
    Calls Tryz.prog 126 #[.int .u64 (hi : Int), .int .u64 (lo : Int), .int .u64 (y : Int)] w fun e w' => e = .returned (.tuple #[.int .u64 (((hi * 18446744073709551616 + lo) / y : Nat) : Int), .int .u64 (((hi * 18446744073709551616 + lo) % y : Nat) : Int)]) ∧ Ext w w' := by
  have hy0 : ((y : Int) == 0) = false := by simp; omega
  have hyh : ¬ (y : Int) ≤ hi := by omega
  have hy1 : ¬ (y : Int) = 0 := by omega
  by_cases h0 : hi = 0
  · subst h0
    go_enter Tryz.func126, Tryz.ntmps126
    go_wp2_with fail
    go_quiet (fail)
    go_wp2_with fail
    go_ret2
    refine ⟨?_, Ext.drewN (Ext.refl _) _⟩
    have e1 : IntKind.u64.wrap ((lo : Int) / y) = ((lo / y : Nat) : Int) := by rw [← Int.natCast_ediv]; exact u64_wrap _ (Nat.lt_of_le_of_lt (Nat.div_le_self _ _) hlo)
    have e2 : (lo : Int) % y = ((lo % y : Nat) : Int) := by simp
    rw [Nat.zero_mul, Nat.zero_add, ← e1, ← e2]
    rfl
  · have hh0 : ((hi : Int) == 0) = false := by simp; omega
    go_enter Tryz.func126, Tryz.ntmps126
    go_wp2_with fail
    refine (lz64_any (y : Int) _ (by omega) (by omega)).mono ?_
    rintro e w1 ⟨L, rfl, hL, rfl⟩
    have hL63 := hL.1
    have hR := ready hlo hhi hL
    clear hL
    obtain ⟨Y, U, D1, D0, hR⟩ : ∃ Y U D1 D0, Ready hi lo y L Y U D1 D0 := ⟨_, _, _, _, hR⟩
    have HR := Lib.hid hR; clear hR
    go_upto_region 15 with fail
    obtain ⟨Y1, hY1⟩ : ∃ Y1, Y1 = Y / 4294967296 := ⟨_, rfl⟩
    obtain ⟨Y0, hY0⟩ : ∃ Y0, Y0 = Y % 4294967296 := ⟨_, rfl⟩
    have hYY : Y1 * 4294967296 + Y0 = Y := by omega
    have eY : IntKind.u64.wrap ((y : Int) * 2 ^ (64 - L)) = (Y : Int) := by rw [u64_shl, HR.out.hY, Nat.mod_eq_of_lt]; rw [← HR.out.hY]; exact HR.out.top
    have eY1 : (Y : Int) / 4294967296 = (Y1 : Int) := by rw [u64_div, hY1]
    have eY0 : bits .and .u64 (Y : Int) 4294967295 = (Y0 : Int) := by rw [u64_mask Y HR.out.top, hY0]
    have eU : bits .or .u64 (IntKind.u64.wrap ((hi : Int) * 2 ^ (64 - L))) ((lo : Int) / 2 ^ (64 - (64 - L))) = (U : Int) := by
      rw [u64_shl, Nat.mod_eq_of_lt HR.out.hi1, u64_shr, show 64 - (64 - L) = L by omega, bits_or_u64_nat _ _ HR.out.hi1 (Nat.lt_of_le_of_lt (Nat.div_le_self _ _) hlo), HR.out.hU']
    have eD1 : IntKind.u64.wrap ((lo : Int) * 2 ^ (64 - L)) / 4294967296 = (D1 : Int) := by rw [u64_shl, u64_div, HR.out.h1]
    have eD0 : bits .and .u64 (IntKind.u64.wrap ((lo : Int) * 2 ^ (64 - L))) 4294967295 = (D0 : Int) := by rw [u64_shl, u64_mask _ (Nat.mod_lt _ (by omega)), HR.out.h0]
    simp only [eY, eY1, eY0, eU, eD1, eD0]
    clear eY eY1 eY0 eU eD1 eD0
    have b1 : 2147483648 ≤ Y1 := by have := HR.out.low; omega
    have b2 : Y1 < 4294967296 := by have := HR.out.top; omega
    have b3 : Y0 < 4294967296 := by omega
    have hd1 : D1 < 4294967296 := by have := HR.out.h1; omega
    have hd0 : D0 < 4294967296 := by have := HR.out.h0; omega
    have hUl : U < Y1 * 4294967296 + Y0 := by rw [hYY]; exact HR.out.lt
    have HYY := Lib.hid hYY
    clear hY1 hY0 hYY
    have hY1z : ((Y1 : Int) == 0) = false := by simp; omega
    have hY1n : ¬ (Y1 : Int) = 0 := by omega
    obtain ⟨Q1, hQ1⟩ : ∃ Q1, Q1 = (U * 4294967296 + D1) / (Y1 * 4294967296 + Y0) := ⟨_, rfl⟩
    have HQ1 := Lib.hid hQ1; clear hQ1
    have hS := dig_start b1 b2 b3 hd1 hUl
    have HS := Lib.hid hS; clear hS
    go_upto_block 0 with fail
    have eq : IntKind.u64.wrap ((U : Int) / (Y1 : Int)) = ((U / Y1 : Nat) : Int) := by rw [← Int.natCast_ediv]; exact u64_wrap _ (by have := HS.out.top; omega)
    have er : IntKind.u64.wrap ((U : Int) - IntKind.u64.wrap (((U / Y1 : Nat) : Int) * (Y1 : Int))) = ((U % Y1 : Nat) : Int) := sub_mod (by have := HR.out.top; have := HR.out.lt; omega)
    simp only [eq, er]
    clear eq er
    obtain ⟨q0, hq0⟩ : ∃ q0, q0 = U / Y1 := ⟨_, rfl⟩
    obtain ⟨r0, hr0⟩ : ∃ r0, r0 = U % Y1 := ⟨_, rfl⟩
    rw [← hq0, ← hr0] at HS
    rw [← hq0, ← hr0]
    clear hq0 hr0
    go_cut [15, 16] from 67 to 85 (fun a b wc => a = .int .u64 (Q1 : Int) ∧ (∃ r : Nat, b = .int .u64 (r : Int)) ∧ wc = w1)
    case first =>
      go_wp2_with fail
      go_loopw [15, 16] (fun a b wr => ∃ q r : Nat, a = .int .u64 (q : Int) ∧ b = .int .u64 (r : Int) ∧ Dig U D1 Y1 Y0 q r ∧ wr = w1) (fun a _ _ => (intOf a).toNat)
      case atStart => exact ⟨q0, r0, rfl, rfl, HS.out, rfl⟩
      case round =>
        obtain ⟨q, r, rfl, rfl, hD, rfl⟩ := hrel
        have hq := hD.top
        have hr := hD.rem
        have hy : 0 < Y1 * 4294967296 + Y0 := by omega
        have HD := Lib.hid hD; clear hD
        obtain ⟨M, hM⟩ : ∃ M, M = q * Y0 := ⟨_, rfl⟩
        obtain ⟨X, hX⟩ : ∃ X, X = 4294967296 * r := ⟨_, rfl⟩
        obtain ⟨Z, hZ⟩ : ∃ Z, Z = X + D1 := ⟨_, rfl⟩
        obtain ⟨r', hr'⟩ : ∃ r', r' = r + Y1 := ⟨_, rfl⟩
        have em : IntKind.u64.wrap ((q : Int) * (Y0 : Int)) = (M : Int) := by rw [u64_mul, hM]; exact u64_wrap _ (by have := Nat.mul_le_mul hq (show Y0 ≤ 4294967295 by omega); omega)
        have er : IntKind.u64.wrap (4294967296 * (r : Int)) = (X : Int) := by rw [IntKind.wrap_u64]; omega
        have ea : IntKind.u64.wrap ((X : Int) + (D1 : Int)) = (Z : Int) := by rw [IntKind.wrap_u64]; omega
        have en : IntKind.u64.wrap ((r : Int) + (Y1 : Int)) = (r' : Int) := by rw [IntKind.wrap_u64]; omega
        have hZ' : Z = 4294967296 * r + D1 := by omega
        have HM := Lib.hid hM; have HX := Lib.hid hX; have HZ := Lib.hid hZ'; have HR' := Lib.hid hr'; clear hM hX hZ hZ' hr'
        by_cases hc : 4294967296 ≤ q ∨ Z < M
        · have hc' : 4294967296 ≤ q ∨ 4294967296 * r + D1 < q * Y0 := by rw [← HM.out, ← HZ.out]; exact hc
          obtain ⟨q', hq'⟩ : ∃ q', q = q' + 1 := ⟨q - 1, by have := (dig_down HD.out hy hd1 hUl hc').2; omega⟩
          have eq1 : IntKind.u64.wrap ((q : Int) - 1) = (q' : Int) := by rw [IntKind.wrap_u64]; omega
          have hqq : q - 1 = q' := by omega
          have HC := Lib.hid hc'; clear hc'
          by_cases hb : 4294967296 ≤ r'
          · have hbi : (4294967296 : Int) ≤ (r' : Int) := by omega
            have HF := Lib.hid (dig_break HD.out hy b3 hd1 hUl HC.out (by rw [← HR'.out]; exact hb))
            rw [hqq] at HF
            clear hqq hq'
            by_cases hc1 : 4294967296 ≤ q
            · have hc1i : (4294967296 : Int) ≤ q := by omega
              clear hc
              go_wp2_with fail
              go_meet
              case rel => exact ⟨by rw [HQ1.out, ← HF.out], ⟨_, rfl⟩, rfl⟩
            · have hc1i : ¬ (4294967296 : Int) ≤ q := by omega
              have hc2i : (Z : Int) < (M : Int) := by omega
              clear hc
              go_wp2_with fail
              go_meet
              case rel => exact ⟨by rw [HQ1.out, ← HF.out], ⟨_, rfl⟩, rfl⟩
          · have hbi : ¬ (4294967296 : Int) ≤ (r' : Int) := by omega
            have HF := Lib.hid (dig_on HD.out hy hd1 hUl HC.out (by rw [← HR'.out]; omega))
            rw [hqq, ← HR'.out] at HF
            have hlt : q' < q := by omega
            clear hqq hq'
            by_cases hc1 : 4294967296 ≤ q
            · have hc1i : (4294967296 : Int) ≤ q := by omega
              clear hc
              go_wp2_with fail
              go_roundw
              case rel => exact ⟨q', r', rfl, rfl, HF.out, trivial⟩
              case measure => simp [intOf]; omega
            · have hc1i : ¬ (4294967296 : Int) ≤ q := by omega
              have hc2i : (Z : Int) < (M : Int) := by omega
              clear hc
              go_wp2_with fail
              go_roundw
              case rel => exact ⟨q', r', rfl, rfl, HF.out, trivial⟩
              case measure => simp [intOf]; omega
        · have hc1i : ¬ (4294967296 : Int) ≤ q := by omega
          have hc2i : ¬ (Z : Int) < (M : Int) := by omega
          have HF := Lib.hid (dig_exit HD.out hy (by rw [← HM.out, ← HZ.out]; omega))
          clear hc
          go_wp2_with fail
          go_meet
          case rel => exact ⟨by rw [HQ1.out, ← HF.out], ⟨_, rfl⟩, rfl⟩
    case rest =>
      obtain ⟨rfl, ⟨rr, rfl⟩, hwc⟩ := hcut
      have hwc' := hwc.symm; clear hwc; subst hwc'
      clear HS
      go_upto_region 22 with fail
      obtain ⟨V, hV⟩ : ∃ V, V = (U * 4294967296 + D1) % Y := ⟨_, rfl⟩
      have hYp : 0 < Y := by have := HR.out.low; omega
      have hVl' : V < Y := by rw [hV]; exact Nat.mod_lt _ hYp
      have hVs : Q1 * Y + V = U * 4294967296 + D1 := by
        have := Nat.div_add_mod (U * 4294967296 + D1) Y
        rw [HQ1.out, HYY.out, hV, Nat.mul_comm]; exact this
      have eV : IntKind.u64.wrap (IntKind.u64.wrap (IntKind.u64.wrap ((U : Int) * 4294967296) + (D1 : Int)) - IntKind.u64.wrap ((Q1 : Int) * (Y : Int))) = (V : Int) := dig_rest hVs (by have := HR.out.top; omega)
      simp only [eV]
      clear eV
      have hVl : V < Y1 * 4294967296 + Y0 := by rw [HYY.out]; exact hVl'
      have HV := Lib.hid hV; have HVS := Lib.hid hVs; clear hV hVs
      obtain ⟨Q0, hQ0⟩ : ∃ Q0, Q0 = (V * 4294967296 + D0) / (Y1 * 4294967296 + Y0) := ⟨_, rfl⟩
      have HQ0 := Lib.hid hQ0; clear hQ0
      have hS2 := dig_start b1 b2 b3 hd0 hVl
      have HS2 := Lib.hid hS2; clear hS2
      go_upto_block 2 with fail
      have eq : IntKind.u64.wrap ((V : Int) / (Y1 : Int)) = ((V / Y1 : Nat) : Int) := by rw [← Int.natCast_ediv]; exact u64_wrap _ (by have := HS2.out.top; omega)
      have er : IntKind.u64.wrap ((V : Int) - IntKind.u64.wrap (((V / Y1 : Nat) : Int) * (Y1 : Int))) = ((V % Y1 : Nat) : Int) := sub_mod (by have := HR.out.top; omega)
      simp only [eq, er]
      clear eq er
      obtain ⟨q0, hq0⟩ : ∃ q0, q0 = V / Y1 := ⟨_, rfl⟩
      obtain ⟨r0, hr0⟩ : ∃ r0, r0 = V % Y1 := ⟨_, rfl⟩
      rw [← hq0, ← hr0] at HS2
      rw [← hq0, ← hr0]
      clear hq0 hr0
      go_cut [18, 16] from 102 to 120 (fun a b wc => a = .int .u64 (Q0 : Int) ∧ (∃ r : Nat, b = .int .u64 (r : Int)) ∧ wc = w1)
      case first =>
        go_wp2_with fail
        go_loopw [16, 18] (fun b a wr => ∃ q r : Nat, a = .int .u64 (q : Int) ∧ b = .int .u64 (r : Int) ∧ Dig V D0 Y1 Y0 q r ∧ wr = w1) (fun _ a _ => (intOf a).toNat)
        case atStart => exact ⟨q0, r0, rfl, rfl, HS2.out, rfl⟩
        case round =>
          obtain ⟨q, r, rfl, rfl, hD, rfl⟩ := hrel
          have hq := hD.top
          have hr := hD.rem
          have hy : 0 < Y1 * 4294967296 + Y0 := by omega
          have HD := Lib.hid hD; clear hD
          obtain ⟨M, hM⟩ : ∃ M, M = q * Y0 := ⟨_, rfl⟩
          obtain ⟨X, hX⟩ : ∃ X, X = 4294967296 * r := ⟨_, rfl⟩
          obtain ⟨Z, hZ⟩ : ∃ Z, Z = X + D0 := ⟨_, rfl⟩
          obtain ⟨r', hr'⟩ : ∃ r', r' = r + Y1 := ⟨_, rfl⟩
          have em : IntKind.u64.wrap ((q : Int) * (Y0 : Int)) = (M : Int) := by rw [u64_mul, hM]; exact u64_wrap _ (by have := Nat.mul_le_mul hq (show Y0 ≤ 4294967295 by omega); omega)
          have er : IntKind.u64.wrap (4294967296 * (r : Int)) = (X : Int) := by rw [IntKind.wrap_u64]; omega
          have ea : IntKind.u64.wrap ((X : Int) + (D0 : Int)) = (Z : Int) := by rw [IntKind.wrap_u64]; omega
          have en : IntKind.u64.wrap ((r : Int) + (Y1 : Int)) = (r' : Int) := by rw [IntKind.wrap_u64]; omega
          have hZ' : Z = 4294967296 * r + D0 := by omega
          have HM := Lib.hid hM; have HX := Lib.hid hX; have HZ := Lib.hid hZ'; have HR' := Lib.hid hr'; clear hM hX hZ hZ' hr'
          by_cases hc : 4294967296 ≤ q ∨ Z < M
          · have hc' : 4294967296 ≤ q ∨ 4294967296 * r + D0 < q * Y0 := by rw [← HM.out, ← HZ.out]; exact hc
            obtain ⟨q', hq'⟩ : ∃ q', q = q' + 1 := ⟨q - 1, by have := (dig_down HD.out hy hd0 hVl hc').2; omega⟩
            have eq1 : IntKind.u64.wrap ((q : Int) - 1) = (q' : Int) := by rw [IntKind.wrap_u64]; omega
            have hqq : q - 1 = q' := by omega
            have HC := Lib.hid hc'; clear hc'
            by_cases hb : 4294967296 ≤ r'
            · have hbi : (4294967296 : Int) ≤ (r' : Int) := by omega
              have HF := Lib.hid (dig_break HD.out hy b3 hd0 hVl HC.out (by rw [← HR'.out]; exact hb))
              rw [hqq] at HF
              clear hqq hq'
              by_cases hc1 : 4294967296 ≤ q
              · have hc1i : (4294967296 : Int) ≤ q := by omega
                clear hc
                go_wp2_with fail
                go_meet
                case rel => exact ⟨by rw [HQ0.out, ← HF.out], ⟨_, rfl⟩, rfl⟩
              · have hc1i : ¬ (4294967296 : Int) ≤ q := by omega
                have hc2i : (Z : Int) < (M : Int) := by omega
                clear hc
                go_wp2_with fail
                go_meet
                case rel => exact ⟨by rw [HQ0.out, ← HF.out], ⟨_, rfl⟩, rfl⟩
            · have hbi : ¬ (4294967296 : Int) ≤ (r' : Int) := by omega
              have HF := Lib.hid (dig_on HD.out hy hd0 hVl HC.out (by rw [← HR'.out]; omega))
              rw [hqq, ← HR'.out] at HF
              have hlt : q' < q := by omega
              clear hqq hq'
              by_cases hc1 : 4294967296 ≤ q
              · have hc1i : (4294967296 : Int) ≤ q := by omega
                clear hc
                go_wp2_with fail
                go_roundw
                case rel => exact ⟨q', r', rfl, rfl, HF.out, trivial⟩
                case measure => simp [intOf]; omega
              · have hc1i : ¬ (4294967296 : Int) ≤ q := by omega
                have hc2i : (Z : Int) < (M : Int) := by omega
                clear hc
                go_wp2_with fail
                go_roundw
                case rel => exact ⟨q', r', rfl, rfl, HF.out, trivial⟩
                case measure => simp [intOf]; omega
          · have hc1i : ¬ (4294967296 : Int) ≤ q := by omega
            have hc2i : ¬ (Z : Int) < (M : Int) := by omega
            have HF := Lib.hid (dig_exit HD.out hy (by rw [← HM.out, ← HZ.out]; omega))
            clear hc
            go_wp2_with fail
            go_meet
            case rel => exact ⟨by rw [HQ0.out, ← HF.out], ⟨_, rfl⟩, rfl⟩
      case rest =>
        obtain ⟨rfl, ⟨rr2, rfl⟩, hwc⟩ := hcut
        have hwc' := hwc.symm; clear hwc; subst hwc'
        clear HS2
        obtain ⟨E, hE⟩ : ∃ E, E = (V * 4294967296 + D0) % Y := ⟨_, rfl⟩
        have hEl : E < Y := by rw [hE]; exact Nat.mod_lt _ hYp
        have hEs : Q0 * Y + E = V * 4294967296 + D0 := by
          have := Nat.div_add_mod (V * 4294967296 + D0) Y
          rw [HQ0.out, HYY.out, hE, Nat.mul_comm]; exact this
        have eE : IntKind.u64.wrap (IntKind.u64.wrap (IntKind.u64.wrap ((V : Int) * 4294967296) + (D0 : Int)) - IntKind.u64.wrap ((Q0 : Int) * (Y : Int))) = (E : Int) := dig_rest hEs (by have := HR.out.top; omega)
        obtain ⟨t1, t2⟩ := dig_two (U := (hi * 18446744073709551616 + lo) * 2 ^ (64 - L)) (y := Y) hYp HR.out.all
        rw [HR.out.hY] at t1 t2
        rw [scale_div] at t1
        have t3 := scale_mod (hi * 18446744073709551616 + lo) y (64 - L)
        rw [t2, ← HR.out.hY, ← HV.out, ← hE] at t3
        rw [← HR.out.hY, ← HV.out] at t1
        have t1' : (hi * 18446744073709551616 + lo) / y = Q1 * 4294967296 + Q0 := by rw [t1, HQ1.out, HQ0.out, HYY.out]
        have hql : (hi * 18446744073709551616 + lo) / y < 18446744073709551616 := by
          rw [Nat.div_lt_iff_lt_mul (by omega)]
          have := Nat.mul_le_mul_right 18446744073709551616 (show hi + 1 ≤ y from hhi)
          rw [Nat.mul_comm 18446744073709551616 y]; omega
        have eQ : IntKind.u64.wrap (IntKind.u64.wrap ((Q1 : Int) * 4294967296) + (Q0 : Int)) = (((hi * 18446744073709551616 + lo) / y : Nat) : Int) := by
          rw [t1'] at hql ⊢
          rw [IntKind.wrap_u64, IntKind.wrap_u64]; omega
        have HEQ := Lib.hid eQ; have HEE := Lib.hid eE; have HT3 := Lib.hid t3
        clear eQ eE t1 t2 t3 t1' hql hEs hE
        go_wp2_with fail
        go_ret2
        have eF : (E : Int) / 2 ^ (64 - L) = (((hi * 18446744073709551616 + lo) % y : Nat) : Int) := by rw [u64_shr, HT3.out]
        simp only [HEE.out, HEQ.out, eF]
        exact ⟨rfl, Ext.refl _⟩
end Go.Proofs.YtkigmpholnfkbaaGreat
