/- words: a style as a whole (names, sizes, uses too), and the first error of it. No program in sight. -/
import Derived.Lib.Mul64
import Derived.Laws.Bits64b
import Derived.Deep.CutRange
import Derived.Deep.CutBlock
import Derived.Test.YtfegbaokcbjllaaGreatKLen2
import Derived.Test.YtfegbaokcbjllaaGreatKWd
import Derived.Test.YtfegbaokcbjllaaGreatKCompS
/- plain: long division in base 2^32; no program in sight -/
namespace Go.Proofs.YtfegbaokcbjllaaGreat
/- one digit of a long division in base 2^32 -/
theorem dg_mul (q y1 y0 : Nat) : q * (y1 * 4294967296 + y0) = (q * y1) * 4294967296 + q * y0 := by
 rw [Nat.mul_add, ← Nat.mul_assoc]
theorem dg_cond {q r u y1 y0 d : Nat} (hu : q * y1 + r = u) : 4294967296 * r + d < q * y0 ↔ u * 4294967296 + d < q * (y1 * 4294967296 + y0) := by
 rw [dg_mul, ← hu, Nat.add_mul]; omega
/- what holds at the head of the loop -/
structure Dig (u d y1 y0 q r : Nat) : Prop where
 sum : q * y1 + r = u
 rem : r < 4294967296
 le : (u * 4294967296 + d) / (y1 * 4294967296 + y0) ≤ q
 top : q ≤ 4294967297
theorem dig_start {u d y1 y0 : Nat} (h1 : 2147483648 ≤ y1) (h1' : y1 < 4294967296) (h0 : y0 < 4294967296) (hd : d < 4294967296) (hu : u < y1 * 4294967296 + y0) : Dig u d y1 y0 (u / y1) (u % y1) := by
 have e := Nat.div_add_mod u y1
 have hm : u % y1 < y1 := Nat.mod_lt _ (by omega)
 refine ⟨by rw [Nat.mul_comm]; exact e, by omega, ?_, ?_⟩
 ·rw [Nat.div_le_iff_le_mul_add_pred (by omega)]
  have e2 : (u / y1) * (y1 * 4294967296 + y0) = (y1 * (u / y1)) * 4294967296 + (u / y1) * y0 := by rw [dg_mul, Nat.mul_comm (u / y1) y1]
  have e3 : (y1 * 4294967296 + y0) * (u / y1) = (y1 * (u / y1)) * 4294967296 + (u / y1) * y0 := by rw [Nat.mul_comm, e2]
  rw [e3]
  generalize u / y1 * y0 = z
  generalize y1 * (u / y1) = x at *
  omega
 ·rcases Nat.lt_or_ge 4294967297 (u / y1) with h | h
  ·have := Nat.mul_le_mul_left y1 (show 4294967298 ≤ u / y1 from h)
   omega
  ·exact h
theorem dig_lt {u d y : Nat} (hy : 0 < y) (hd : d < 4294967296) (hu : u < y) : (u * 4294967296 + d) / y < 4294967296 := by
 rw [Nat.div_lt_iff_lt_mul hy]
 have := Nat.mul_le_mul_right 4294967296 (show u + 1 ≤ y from hu)
 rw [Nat.mul_comm 4294967296 y]; omega
theorem dig_exit {u d y1 y0 q r : Nat} (h : Dig u d y1 y0 q r) (hy : 0 < y1 * 4294967296 + y0) (hc : ¬ 4294967296 * r + d < q * y0) : q = (u * 4294967296 + d) / (y1 * 4294967296 + y0) := by
 rw [dg_cond h.sum] at hc
 have := (Nat.le_div_iff_mul_le hy).2 (Nat.not_lt.1 hc)
 have := h.le
 omega
theorem dig_down {u d y1 y0 q r : Nat} (h : Dig u d y1 y0 q r) (hy : 0 < y1 * 4294967296 + y0) (hd : d < 4294967296) (hu : u < y1 * 4294967296 + y0) (hc : 4294967296 ≤ q ∨ 4294967296 * r + d < q * y0) : (u * 4294967296 + d) / (y1 * 4294967296 + y0) ≤ q - 1 ∧ 1 ≤ q := by
 have hl := dig_lt hy hd hu
 rcases hc with hc | hc
 ·omega
 ·rw [dg_cond h.sum] at hc
  have := (Nat.div_lt_iff_lt_mul hy).2 hc
  generalize (u * 4294967296 + d) / (y1 * 4294967296 + y0) = Q at *
  exact ⟨by omega, by omega⟩
theorem dig_on {u d y1 y0 q r : Nat} (h : Dig u d y1 y0 q r) (hy : 0 < y1 * 4294967296 + y0) (hd : d < 4294967296) (hu : u < y1 * 4294967296 + y0) (hc : 4294967296 ≤ q ∨ 4294967296 * r + d < q * y0) (hr : r + y1 < 4294967296) : Dig u d y1 y0 (q - 1) (r + y1) := by
 obtain ⟨h1, h2⟩ := dig_down h hy hd hu hc
 refine ⟨?_, hr, h1, by have := h.top; omega⟩
 have := h.sum
 obtain ⟨p, rfl⟩ : ∃ p, q = p + 1 := ⟨q - 1, by omega⟩
 rw [Nat.add_mul, Nat.one_mul] at this
 simp only [Nat.add_sub_cancel]; omega
theorem dig_break {u d y1 y0 q r : Nat} (h : Dig u d y1 y0 q r) (hy : 0 < y1 * 4294967296 + y0) (h0 : y0 < 4294967296) (hd : d < 4294967296) (hu : u < y1 * 4294967296 + y0) (hc : 4294967296 ≤ q ∨ 4294967296 * r + d < q * y0) (hr : 4294967296 ≤ r + y1) : q - 1 = (u * 4294967296 + d) / (y1 * 4294967296 + y0) := by
 obtain ⟨h1, h2⟩ := dig_down h hy hd hu hc
 have hs : (q - 1) * y1 + (r + y1) = u := by
  have := h.sum
  obtain ⟨p, rfl⟩ : ∃ p, q = p + 1 := ⟨q - 1, by omega⟩
  rw [Nat.add_mul, Nat.one_mul] at this
  simp only [Nat.add_sub_cancel]; omega
 have hn : ¬ 4294967296 * (r + y1) + d < (q - 1) * y0 := by
  have h3 := Nat.mul_le_mul (show q - 1 ≤ 4294967296 by have := h.top; omega) (Nat.le_of_lt h0)
  omega
 rw [dg_cond hs] at hn
 have := (Nat.le_div_iff_mul_le hy).2 (Nat.not_lt.1 hn)
 omega
/- two digits -/
theorem dig_two {U y X d0 : Nat} (hy : 0 < y) (hU : U = X * 4294967296 + d0) :
  U / y = (X / y) * 4294967296 + ((X % y) * 4294967296 + d0) / y ∧ U % y = ((X % y) * 4294967296 + d0) % y := by
 have e := Nat.div_add_mod X y
 have e2 : U = (X % y * 4294967296 + d0) + y * (X / y * 4294967296) := by
  rw [hU]
  have : X * 4294967296 = (y * (X / y) + X % y) * 4294967296 := by rw [e]
  rw [this, Nat.add_mul, Nat.mul_assoc]
  generalize y * (X / y * 4294967296) = Z
  generalize X % y * 4294967296 = Y
  omega
 refine ⟨?_, ?_⟩
 ·rw [e2, Nat.add_mul_div_left _ _ hy, Nat.add_comm]
 ·rw [e2, Nat.add_mul_mod_self_left]
/- scaling -/
theorem scale_div (n y s : Nat) : (n * 2 ^ s) / (y * 2 ^ s) = n / y := Nat.mul_div_mul_right _ _ (Nat.pow_pos (by omega))
theorem scale_mod (n y s : Nat) : (n * 2 ^ s) % (y * 2 ^ s) / 2 ^ s = n % y := by
 rw [Nat.mul_mod_mul_right, Nat.mul_div_cancel _ (Nat.pow_pos (by omega))]
end Go.Proofs.YtfegbaokcbjllaaGreat
/- math/bits.Mul64 -/
namespace Go.Proofs.YtfegbaokcbjllaaGreat
open Go.RowKit
theorem u64_mask (a : Nat) (ha : a < 18446744073709551616) : bits .and .u64 (a : Int) 4294967295 = ((a % 4294967296 : Nat) : Int) := by
 have h := bits_and_u64_nat a 4294967295 ha (by omega)
 have e : a &&& 4294967295 = a % 4294967296 := Nat.and_two_pow_sub_one_eq_mod a 32
 rw [e] at h
 exact h
theorem u64_div (a : Nat) : (a : Int) / 4294967296 = ((a / 4294967296 : Nat) : Int) := by omega
theorem u64_mul (a b : Nat) : (a : Int) * (b : Int) = ((a * b : Nat) : Int) := (Int.natCast_mul a b).symm
theorem u64_add (a b : Nat) : (a : Int) + (b : Int) = ((a + b : Nat) : Int) := (Int.natCast_add a b).symm
theorem u64_wrap (a : Nat) (ha : a < 18446744073709551616) : IntKind.u64.wrap (a : Int) = (a : Int) := by rw [IntKind.wrap_u64]; omega
theorem u64_mod (a : Nat) : IntKind.u64.wrap (a : Int) = ((a % 18446744073709551616 : Nat) : Int) := by rw [IntKind.wrap_u64]; omega
set_option maxHeartbeats 1000000 in
theorem mul64_any (x y : Nat) (hx : x < 18446744073709551616) (hy : y < 18446744073709551616) (w : World) :
  Calls Tryz.prog 96 #[.int .u64 x, .int .u64 y] w fun e w' => e = .returned (.tuple #[.int .u64 ((x * y / 18446744073709551616 : Nat) : Int), .int .u64 ((x * y % 18446744073709551616 : Nat) : Int)]) ∧ w' = w := by
 obtain ⟨bd, bt, bw, hhi⟩ := Lib.mul64_hi x y hx hy
 have ba := Lib.half_mul_le (a := x / 4294967296) (b := y / 4294967296) (by omega) (by omega)
 have bb := Lib.half_mul_le (a := x / 4294967296) (b := y % 4294967296) (by omega) (by omega)
 have bc := Lib.half_mul_le (a := x % 4294967296) (b := y / 4294967296) (by omega) (by omega)
 have ba' : x / 4294967296 * (y / 4294967296) < 18446744073709551616 := by omega
 have bb' : x / 4294967296 * (y % 4294967296) < 18446744073709551616 := by omega
 have bc' : x % 4294967296 * (y / 4294967296) < 18446744073709551616 := by omega
 have bh1 : x / 4294967296 * (y / 4294967296) + (x / 4294967296 * (y % 4294967296) + x % 4294967296 * (y % 4294967296) / 4294967296) / 4294967296 < 18446744073709551616 := by omega
 have bh : x / 4294967296 * (y / 4294967296) + (x / 4294967296 * (y % 4294967296) + x % 4294967296 * (y % 4294967296) / 4294967296) / 4294967296 + ((x / 4294967296 * (y % 4294967296) + x % 4294967296 * (y % 4294967296) / 4294967296) % 4294967296 + x % 4294967296 * (y / 4294967296)) / 4294967296 < 18446744073709551616 := by omega
 go_enter Tryz.func96, Tryz.ntmps96
 go_wp2_with fail
 simp only [u64_mask x hx, u64_mask y hy, u64_div, u64_mul, u64_add, u64_wrap _ bd, u64_wrap _ bb', u64_wrap _ bt, u64_mask _ bt, u64_wrap _ bc', u64_wrap _ bw, u64_wrap _ ba', u64_wrap _ bh1, u64_wrap _ bh, u64_mod (x * y)]
 rw [hhi]
 go_ret2
 exact ⟨rfl, rfl⟩
/- the numbers of the long division, made ready: s = 64 - L -/
structure Ready (hi lo y L Y U D1 D0 : Nat) : Prop where
 top : Y < 18446744073709551616
 low : 9223372036854775808 ≤ Y
 hY : Y = y * 2 ^ (64 - L)
 hi1 : hi * 2 ^ (64 - L) < 18446744073709551616
 hU : U = hi * 2 ^ (64 - L) + lo / 2 ^ L
 hU' : hi * 2 ^ (64 - L) ||| lo / 2 ^ L = U
 lt : U < Y
 h1 : D1 = lo * 2 ^ (64 - L) % 18446744073709551616 / 4294967296
 h0 : D0 = lo * 2 ^ (64 - L) % 18446744073709551616 % 4294967296
 all : (hi * 18446744073709551616 + lo) * 2 ^ (64 - L) = (U * 4294967296 + D1) * 4294967296 + D0
theorem ready {hi lo y L : Nat} (hlo : lo < 18446744073709551616) (hhi : hi < y) (h : LenIs (y : Int) L) :
  Ready hi lo y L (y * 2 ^ (64 - L)) (hi * 2 ^ (64 - L) + lo / 2 ^ L) (lo * 2 ^ (64 - L) % 18446744073709551616 / 4294967296) (lo * 2 ^ (64 - L) % 18446744073709551616 % 4294967296) := by
 obtain ⟨h63, hlt, hL1, hge⟩ := h
 rw [Int.toNat_natCast] at hlt hge
 have e64 : 2 ^ L * 2 ^ (64 - L) = 18446744073709551616 := by rw [← Nat.pow_add, show L + (64 - L) = 64 by omega]
 have e63 : 2 ^ (L - 1) * 2 ^ (64 - L) = 9223372036854775808 := by rw [← Nat.pow_add, show L - 1 + (64 - L) = 63 by omega]
 have hp : 0 < 2 ^ (64 - L) := Nat.pow_pos (by omega)
 have hpL : 0 < 2 ^ L := Nat.pow_pos (by omega)
 have hq : lo / 2 ^ L < 2 ^ (64 - L) := by rw [Nat.div_lt_iff_lt_mul hpL, Nat.mul_comm, e64]; exact hlo
 have hdiv : lo * 2 ^ (64 - L) / 18446744073709551616 = lo / 2 ^ L := by rw [← e64]; exact Nat.mul_div_mul_right _ _ hp
 have hdm := Nat.div_add_mod (lo * 2 ^ (64 - L)) 18446744073709551616
 rw [hdiv] at hdm
 refine ⟨?_, ?_, rfl, ?_, rfl, ?_, ?_, rfl, rfl, ?_⟩
 ·rw [← e64]; exact Nat.mul_lt_mul_of_pos_right hlt hp
 ·rw [← e63]; exact Nat.mul_le_mul_right _ hge
 ·rw [← e64]; exact Nat.mul_lt_mul_of_pos_right (Nat.lt_trans hhi hlt) hp
 ·rw [Nat.mul_comm hi, Nat.two_pow_add_eq_or_of_lt hq]
 ·have := Nat.mul_le_mul_right (2 ^ (64 - L)) (show hi + 1 ≤ y from hhi)
  rw [Nat.add_mul, Nat.one_mul] at this
  omega
 ·generalize lo * 2 ^ (64 - L) % 18446744073709551616 = z at *
  rw [Nat.add_mul (hi * 18446744073709551616), Nat.mul_right_comm]
  generalize lo * 2 ^ (64 - L) = x at *
  generalize hi * 2 ^ (64 - L) = u at *
  generalize lo / 2 ^ L = v at *
  omega
theorem u64_shl (a k : Nat) : IntKind.u64.wrap ((a : Int) * 2 ^ k) = ((a * 2 ^ k % 18446744073709551616 : Nat) : Int) := by rw [← u64_mod]; simp
theorem sub_mod {u y : Nat} (hu : u < 18446744073709551616) : IntKind.u64.wrap ((u : Int) - IntKind.u64.wrap (((u / y : Nat) : Int) * (y : Int))) = ((u % y : Nat) : Int) := by
 have e := Nat.div_add_mod u y
 rw [Nat.mul_comm] at e
 rw [← Int.natCast_mul]
 generalize u / y * y = z at *
 generalize u % y = m at *
 rw [IntKind.wrap_u64, IntKind.wrap_u64]
 omega
theorem dig_rest {U D Q Y V : Nat} (h : Q * Y + V = U * 4294967296 + D) (hV : V < 18446744073709551616) :
  IntKind.u64.wrap (IntKind.u64.wrap (IntKind.u64.wrap ((U : Int) * 4294967296) + (D : Int)) - IntKind.u64.wrap ((Q : Int) * (Y : Int))) = (V : Int) := by
 rw [← Int.natCast_mul]
 generalize Q * Y = z at *
 simp only [IntKind.wrap_u64]
 omega
theorem u64_shr (a k : Nat) : (a : Int) / 2 ^ k = ((a / 2 ^ k : Nat) : Int) := by simp
set_option maxRecDepth 100000 in
set_option maxHeartbeats 1600000 in
theorem div64_any (hi lo y : Nat) (w : World) (hlo : lo < 18446744073709551616) (hhi : hi < y) (hy : y ≤ 9223372036854775807) :
  Calls Tryz.prog 97 #[.int .u64 (hi : Int), .int .u64 (lo : Int), .int .u64 (y : Int)] w fun e w' => e = .returned (.tuple #[.int .u64 (((hi * 18446744073709551616 + lo) / y : Nat) : Int), .int .u64 (((hi * 18446744073709551616 + lo) % y : Nat) : Int)]) ∧ Ext w w' := by
 have hy0 : ((y : Int) == 0) = false := by simp; omega
 have hyh : ¬ (y : Int) ≤ hi := by omega
 have hy1 : ¬ (y : Int) = 0 := by omega
 by_cases h0 : hi = 0
 ·subst h0
  go_enter Tryz.func97, Tryz.ntmps97
  go_wp2_with fail
  go_quiet (fail)
  go_wp2_with fail
  go_ret2
  refine ⟨?_, Ext.drewN (Ext.refl _) _⟩
  have e1 : IntKind.u64.wrap ((lo : Int) / y) = ((lo / y : Nat) : Int) := by rw [← Int.natCast_ediv]; exact u64_wrap _ (Nat.lt_of_le_of_lt (Nat.div_le_self _ _) hlo)
  have e2 : (lo : Int) % y = ((lo % y : Nat) : Int) := by simp
  rw [Nat.zero_mul, Nat.zero_add, ← e1, ← e2]
  rfl
 ·have hh0 : ((hi : Int) == 0) = false := by simp; omega
  go_enter Tryz.func97, Tryz.ntmps97
  go_wp2_with fail
  refine (lz64_any (y : Int) _ (by omega) (by omega)).mono ?_
  rintro e w1 ⟨L, rfl, hL, rfl⟩
  have hL63 := hL.1
  have hR := ready hlo hhi hL
  clear hL
  obtain ⟨Y, U, D1, D0, hR⟩ : ∃ Y U D1 D0, Ready hi lo y L Y U D1 D0 := ⟨_, _, _, _, hR⟩
  have HR := Lib.hid hR; clear hR
  go_upto_region 15 with fail
  obtain ⟨Y1, hY1⟩ : ∃ Y1, Y1 = Y / 4294967296 := ⟨_, rfl⟩
  obtain ⟨Y0, hY0⟩ : ∃ Y0, Y0 = Y % 4294967296 := ⟨_, rfl⟩
  have hYY : Y1 * 4294967296 + Y0 = Y := by omega
  have eY : IntKind.u64.wrap ((y : Int) * 2 ^ (64 - L)) = (Y : Int) := by rw [u64_shl, HR.out.hY, Nat.mod_eq_of_lt]; rw [← HR.out.hY]; exact HR.out.top
  have eY1 : (Y : Int) / 4294967296 = (Y1 : Int) := by rw [u64_div, hY1]
  have eY0 : bits .and .u64 (Y : Int) 4294967295 = (Y0 : Int) := by rw [u64_mask Y HR.out.top, hY0]
  have eU : bits .or .u64 (IntKind.u64.wrap ((hi : Int) * 2 ^ (64 - L))) ((lo : Int) / 2 ^ (64 - (64 - L))) = (U : Int) := by
   rw [u64_shl, Nat.mod_eq_of_lt HR.out.hi1, u64_shr, show 64 - (64 - L) = L by omega, bits_or_u64_nat _ _ HR.out.hi1 (Nat.lt_of_le_of_lt (Nat.div_le_self _ _) hlo), HR.out.hU']
  have eD1 : IntKind.u64.wrap ((lo : Int) * 2 ^ (64 - L)) / 4294967296 = (D1 : Int) := by rw [u64_shl, u64_div, HR.out.h1]
  have eD0 : bits .and .u64 (IntKind.u64.wrap ((lo : Int) * 2 ^ (64 - L))) 4294967295 = (D0 : Int) := by rw [u64_shl, u64_mask _ (Nat.mod_lt _ (by omega)), HR.out.h0]
  simp only [eY, eY1, eY0, eU, eD1, eD0]
  clear eY eY1 eY0 eU eD1 eD0
  have b1 : 2147483648 ≤ Y1 := by have := HR.out.low; omega
  have b2 : Y1 < 4294967296 := by have := HR.out.top; omega
  have b3 : Y0 < 4294967296 := by omega
  have hd1 : D1 < 4294967296 := by have := HR.out.h1; omega
  have hd0 : D0 < 4294967296 := by have := HR.out.h0; omega
  have hUl : U < Y1 * 4294967296 + Y0 := by rw [hYY]; exact HR.out.lt
  have HYY := Lib.hid hYY
  clear hY1 hY0 hYY
  have hY1z : ((Y1 : Int) == 0) = false := by simp; omega
  have hY1n : ¬ (Y1 : Int) = 0 := by omega
  obtain ⟨Q1, hQ1⟩ : ∃ Q1, Q1 = (U * 4294967296 + D1) / (Y1 * 4294967296 + Y0) := ⟨_, rfl⟩
  have HQ1 := Lib.hid hQ1; clear hQ1
  have hS := dig_start b1 b2 b3 hd1 hUl
  have HS := Lib.hid hS; clear hS
  go_upto_block 0 with fail
  have eq : IntKind.u64.wrap ((U : Int) / (Y1 : Int)) = ((U / Y1 : Nat) : Int) := by rw [← Int.natCast_ediv]; exact u64_wrap _ (by have := HS.out.top; omega)
  have er : IntKind.u64.wrap ((U : Int) - IntKind.u64.wrap (((U / Y1 : Nat) : Int) * (Y1 : Int))) = ((U % Y1 : Nat) : Int) := sub_mod (by have := HR.out.top; have := HR.out.lt; omega)
  simp only [eq, er]
  clear eq er
  obtain ⟨q0, hq0⟩ : ∃ q0, q0 = U / Y1 := ⟨_, rfl⟩
  obtain ⟨r0, hr0⟩ : ∃ r0, r0 = U % Y1 := ⟨_, rfl⟩
  rw [← hq0, ← hr0] at HS
  rw [← hq0, ← hr0]
  clear hq0 hr0
  go_cut [15, 16] from 67 to 85 (fun a b wc => a = .int .u64 (Q1 : Int) ∧ (∃ r : Nat, b = .int .u64 (r : Int)) ∧ wc = w1)
  case first =>
   go_wp2_with fail
   go_loopw [15, 16] (fun a b wr => ∃ q r : Nat, a = .int .u64 (q : Int) ∧ b = .int .u64 (r : Int) ∧ Dig U D1 Y1 Y0 q r ∧ wr = w1) (fun a _ _ => (intOf a).toNat)
   case atStart => exact ⟨q0, r0, rfl, rfl, HS.out, rfl⟩
   case round =>
    obtain ⟨q, r, rfl, rfl, hD, rfl⟩ := hrel
    have hq := hD.top
    have hr := hD.rem
    have hy : 0 < Y1 * 4294967296 + Y0 := by omega
    have HD := Lib.hid hD; clear hD
    obtain ⟨M, hM⟩ : ∃ M, M = q * Y0 := ⟨_, rfl⟩
    obtain ⟨X, hX⟩ : ∃ X, X = 4294967296 * r := ⟨_, rfl⟩
    obtain ⟨Z, hZ⟩ : ∃ Z, Z = X + D1 := ⟨_, rfl⟩
    obtain ⟨r', hr'⟩ : ∃ r', r' = r + Y1 := ⟨_, rfl⟩
    have em : IntKind.u64.wrap ((q : Int) * (Y0 : Int)) = (M : Int) := by rw [u64_mul, hM]; exact u64_wrap _ (by have := Nat.mul_le_mul hq (show Y0 ≤ 4294967295 by omega); omega)
    have er : IntKind.u64.wrap (4294967296 * (r : Int)) = (X : Int) := by rw [IntKind.wrap_u64]; omega
    have ea : IntKind.u64.wrap ((X : Int) + (D1 : Int)) = (Z : Int) := by rw [IntKind.wrap_u64]; omega
    have en : IntKind.u64.wrap ((r : Int) + (Y1 : Int)) = (r' : Int) := by rw [IntKind.wrap_u64]; omega
    have hZ' : Z = 4294967296 * r + D1 := by omega
    have HM := Lib.hid hM; have HX := Lib.hid hX; have HZ := Lib.hid hZ'; have HR' := Lib.hid hr'; clear hM hX hZ hZ' hr'
    by_cases hc : 4294967296 ≤ q ∨ Z < M
    ·have hc' : 4294967296 ≤ q ∨ 4294967296 * r + D1 < q * Y0 := by rw [← HM.out, ← HZ.out]; exact hc
     obtain ⟨q', hq'⟩ : ∃ q', q = q' + 1 := ⟨q - 1, by have := (dig_down HD.out hy hd1 hUl hc').2; omega⟩
     have eq1 : IntKind.u64.wrap ((q : Int) - 1) = (q' : Int) := by rw [IntKind.wrap_u64]; omega
     have hqq : q - 1 = q' := by omega
     have HC := Lib.hid hc'; clear hc'
     by_cases hb : 4294967296 ≤ r'
     ·have hbi : (4294967296 : Int) ≤ (r' : Int) := by omega
      have HF := Lib.hid (dig_break HD.out hy b3 hd1 hUl HC.out (by rw [← HR'.out]; exact hb))
      rw [hqq] at HF
      clear hqq hq'
      by_cases hc1 : 4294967296 ≤ q
      ·have hc1i : (4294967296 : Int) ≤ q := by omega
       clear hc
       go_wp2_with fail
       go_meet
       case rel => exact ⟨by rw [HQ1.out, ← HF.out], ⟨_, rfl⟩, rfl⟩
      ·have hc1i : ¬ (4294967296 : Int) ≤ q := by omega
       have hc2i : (Z : Int) < (M : Int) := by omega
       clear hc
       go_wp2_with fail
       go_meet
       case rel => exact ⟨by rw [HQ1.out, ← HF.out], ⟨_, rfl⟩, rfl⟩
     ·have hbi : ¬ (4294967296 : Int) ≤ (r' : Int) := by omega
      have HF := Lib.hid (dig_on HD.out hy hd1 hUl HC.out (by rw [← HR'.out]; omega))
      rw [hqq, ← HR'.out] at HF
      have hlt : q' < q := by omega
      clear hqq hq'
      by_cases hc1 : 4294967296 ≤ q
      ·have hc1i : (4294967296 : Int) ≤ q := by omega
       clear hc
       go_wp2_with fail
       go_roundw
       case rel => exact ⟨q', r', rfl, rfl, HF.out, trivial⟩
       case measure => simp [intOf]; omega
      ·have hc1i : ¬ (4294967296 : Int) ≤ q := by omega
       have hc2i : (Z : Int) < (M : Int) := by omega
       clear hc
       go_wp2_with fail
       go_roundw
       case rel => exact ⟨q', r', rfl, rfl, HF.out, trivial⟩
       case measure => simp [intOf]; omega
    ·have hc1i : ¬ (4294967296 : Int) ≤ q := by omega
     have hc2i : ¬ (Z : Int) < (M : Int) := by omega
     have HF := Lib.hid (dig_exit HD.out hy (by rw [← HM.out, ← HZ.out]; omega))
     clear hc
     go_wp2_with fail
     go_meet
     case rel => exact ⟨by rw [HQ1.out, ← HF.out], ⟨_, rfl⟩, rfl⟩
  case rest =>
   obtain ⟨rfl, ⟨rr, rfl⟩, hwc⟩ := hcut
   have hwc' := hwc.symm; clear hwc; subst hwc'
   clear HS
   go_upto_region 22 with fail
   obtain ⟨V, hV⟩ : ∃ V, V = (U * 4294967296 + D1) % Y := ⟨_, rfl⟩
   have hYp : 0 < Y := by have := HR.out.low; omega
   have hVl' : V < Y := by rw [hV]; exact Nat.mod_lt _ hYp
   have hVs : Q1 * Y + V = U * 4294967296 + D1 := by
    have := Nat.div_add_mod (U * 4294967296 + D1) Y
    rw [HQ1.out, HYY.out, hV, Nat.mul_comm]; exact this
   have eV : IntKind.u64.wrap (IntKind.u64.wrap (IntKind.u64.wrap ((U : Int) * 4294967296) + (D1 : Int)) - IntKind.u64.wrap ((Q1 : Int) * (Y : Int))) = (V : Int) := dig_rest hVs (by have := HR.out.top; omega)
   simp only [eV]
   clear eV
   have hVl : V < Y1 * 4294967296 + Y0 := by rw [HYY.out]; exact hVl'
   have HV := Lib.hid hV; have HVS := Lib.hid hVs; clear hV hVs
   obtain ⟨Q0, hQ0⟩ : ∃ Q0, Q0 = (V * 4294967296 + D0) / (Y1 * 4294967296 + Y0) := ⟨_, rfl⟩
   have HQ0 := Lib.hid hQ0; clear hQ0
   have hS2 := dig_start b1 b2 b3 hd0 hVl
   have HS2 := Lib.hid hS2; clear hS2
   go_upto_block 2 with fail
   have eq : IntKind.u64.wrap ((V : Int) / (Y1 : Int)) = ((V / Y1 : Nat) : Int) := by rw [← Int.natCast_ediv]; exact u64_wrap _ (by have := HS2.out.top; omega)
   have er : IntKind.u64.wrap ((V : Int) - IntKind.u64.wrap (((V / Y1 : Nat) : Int) * (Y1 : Int))) = ((V % Y1 : Nat) : Int) := sub_mod (by have := HR.out.top; omega)
   simp only [eq, er]
   clear eq er
   obtain ⟨q0, hq0⟩ : ∃ q0, q0 = V / Y1 := ⟨_, rfl⟩
   obtain ⟨r0, hr0⟩ : ∃ r0, r0 = V % Y1 := ⟨_, rfl⟩
   rw [← hq0, ← hr0] at HS2
   rw [← hq0, ← hr0]
   clear hq0 hr0
   go_cut [18, 16] from 102 to 120 (fun a b wc => a = .int .u64 (Q0 : Int) ∧ (∃ r : Nat, b = .int .u64 (r : Int)) ∧ wc = w1)
   case first =>
    go_wp2_with fail
    go_loopw [16, 18] (fun b a wr => ∃ q r : Nat, a = .int .u64 (q : Int) ∧ b = .int .u64 (r : Int) ∧ Dig V D0 Y1 Y0 q r ∧ wr = w1) (fun _ a _ => (intOf a).toNat)
    case atStart => exact ⟨q0, r0, rfl, rfl, HS2.out, rfl⟩
    case round =>
     obtain ⟨q, r, rfl, rfl, hD, rfl⟩ := hrel
     have hq := hD.top
     have hr := hD.rem
     have hy : 0 < Y1 * 4294967296 + Y0 := by omega
     have HD := Lib.hid hD; clear hD
     obtain ⟨M, hM⟩ : ∃ M, M = q * Y0 := ⟨_, rfl⟩
     obtain ⟨X, hX⟩ : ∃ X, X = 4294967296 * r := ⟨_, rfl⟩
     obtain ⟨Z, hZ⟩ : ∃ Z, Z = X + D0 := ⟨_, rfl⟩
     obtain ⟨r', hr'⟩ : ∃ r', r' = r + Y1 := ⟨_, rfl⟩
     have em : IntKind.u64.wrap ((q : Int) * (Y0 : Int)) = (M : Int) := by rw [u64_mul, hM]; exact u64_wrap _ (by have := Nat.mul_le_mul hq (show Y0 ≤ 4294967295 by omega); omega)
     have er : IntKind.u64.wrap (4294967296 * (r : Int)) = (X : Int) := by rw [IntKind.wrap_u64]; omega
     have ea : IntKind.u64.wrap ((X : Int) + (D0 : Int)) = (Z : Int) := by rw [IntKind.wrap_u64]; omega
     have en : IntKind.u64.wrap ((r : Int) + (Y1 : Int)) = (r' : Int) := by rw [IntKind.wrap_u64]; omega
     have hZ' : Z = 4294967296 * r + D0 := by omega
     have HM := Lib.hid hM; have HX := Lib.hid hX; have HZ := Lib.hid hZ'; have HR' := Lib.hid hr'; clear hM hX hZ hZ' hr'
     by_cases hc : 4294967296 ≤ q ∨ Z < M
     ·have hc' : 4294967296 ≤ q ∨ 4294967296 * r + D0 < q * Y0 := by rw [← HM.out, ← HZ.out]; exact hc
      obtain ⟨q', hq'⟩ : ∃ q', q = q' + 1 := ⟨q - 1, by have := (dig_down HD.out hy hd0 hVl hc').2; omega⟩
      have eq1 : IntKind.u64.wrap ((q : Int) - 1) = (q' : Int) := by rw [IntKind.wrap_u64]; omega
      have hqq : q - 1 = q' := by omega
      have HC := Lib.hid hc'; clear hc'
      by_cases hb : 4294967296 ≤ r'
      ·have hbi : (4294967296 : Int) ≤ (r' : Int) := by omega
       have HF := Lib.hid (dig_break HD.out hy b3 hd0 hVl HC.out (by rw [← HR'.out]; exact hb))
       rw [hqq] at HF
       clear hqq hq'
       by_cases hc1 : 4294967296 ≤ q
       ·have hc1i : (4294967296 : Int) ≤ q := by omega
        clear hc
        go_wp2_with fail
        go_meet
        case rel => exact ⟨by rw [HQ0.out, ← HF.out], ⟨_, rfl⟩, rfl⟩
       ·have hc1i : ¬ (4294967296 : Int) ≤ q := by omega
        have hc2i : (Z : Int) < (M : Int) := by omega
        clear hc
        go_wp2_with fail
        go_meet
        case rel => exact ⟨by rw [HQ0.out, ← HF.out], ⟨_, rfl⟩, rfl⟩
      ·have hbi : ¬ (4294967296 : Int) ≤ (r' : Int) := by omega
       have HF := Lib.hid (dig_on HD.out hy hd0 hVl HC.out (by rw [← HR'.out]; omega))
       rw [hqq, ← HR'.out] at HF
       have hlt : q' < q := by omega
       clear hqq hq'
       by_cases hc1 : 4294967296 ≤ q
       ·have hc1i : (4294967296 : Int) ≤ q := by omega
        clear hc
        go_wp2_with fail
        go_roundw
        case rel => exact ⟨q', r', rfl, rfl, HF.out, trivial⟩
        case measure => simp [intOf]; omega
       ·have hc1i : ¬ (4294967296 : Int) ≤ q := by omega
        have hc2i : (Z : Int) < (M : Int) := by omega
        clear hc
        go_wp2_with fail
        go_roundw
        case rel => exact ⟨q', r', rfl, rfl, HF.out, trivial⟩
        case measure => simp [intOf]; omega
     ·have hc1i : ¬ (4294967296 : Int) ≤ q := by omega
      have hc2i : ¬ (Z : Int) < (M : Int) := by omega
      have HF := Lib.hid (dig_exit HD.out hy (by rw [← HM.out, ← HZ.out]; omega))
      clear hc
      go_wp2_with fail
      go_meet
      case rel => exact ⟨by rw [HQ0.out, ← HF.out], ⟨_, rfl⟩, rfl⟩
   case rest =>
    obtain ⟨rfl, ⟨rr2, rfl⟩, hwc⟩ := hcut
    have hwc' := hwc.symm; clear hwc; subst hwc'
    clear HS2
    obtain ⟨E, hE⟩ : ∃ E, E = (V * 4294967296 + D0) % Y := ⟨_, rfl⟩
    have hEl : E < Y := by rw [hE]; exact Nat.mod_lt _ hYp
    have hEs : Q0 * Y + E = V * 4294967296 + D0 := by
     have := Nat.div_add_mod (V * 4294967296 + D0) Y
     rw [HQ0.out, HYY.out, hE, Nat.mul_comm]; exact this
    have eE : IntKind.u64.wrap (IntKind.u64.wrap (IntKind.u64.wrap ((V : Int) * 4294967296) + (D0 : Int)) - IntKind.u64.wrap ((Q0 : Int) * (Y : Int))) = (E : Int) := dig_rest hEs (by have := HR.out.top; omega)
    obtain ⟨t1, t2⟩ := dig_two (U := (hi * 18446744073709551616 + lo) * 2 ^ (64 - L)) (y := Y) hYp HR.out.all
    rw [HR.out.hY] at t1 t2
    rw [scale_div] at t1
    have t3 := scale_mod (hi * 18446744073709551616 + lo) y (64 - L)
    rw [t2, ← HR.out.hY, ← HV.out, ← hE] at t3
    rw [← HR.out.hY, ← HV.out] at t1
    have t1' : (hi * 18446744073709551616 + lo) / y = Q1 * 4294967296 + Q0 := by rw [t1, HQ1.out, HQ0.out, HYY.out]
    have hql : (hi * 18446744073709551616 + lo) / y < 18446744073709551616 := by
     rw [Nat.div_lt_iff_lt_mul (by omega)]
     have := Nat.mul_le_mul_right 18446744073709551616 (show hi + 1 ≤ y from hhi)
     rw [Nat.mul_comm 18446744073709551616 y]; omega
    have eQ : IntKind.u64.wrap (IntKind.u64.wrap ((Q1 : Int) * 4294967296) + (Q0 : Int)) = (((hi * 18446744073709551616 + lo) / y : Nat) : Int) := by
     rw [t1'] at hql ⊢
     rw [IntKind.wrap_u64, IntKind.wrap_u64]; omega
    have HEQ := Lib.hid eQ; have HEE := Lib.hid eE; have HT3 := Lib.hid t3
    clear eQ eE t1 t2 t3 t1' hql hEs hE
    go_wp2_with fail
    go_ret2
    have eF : (E : Int) / 2 ^ (64 - L) = (((hi * 18446744073709551616 + lo) % y : Nat) : Int) := by rw [u64_shr, HT3.out]
    simp only [HEE.out, HEQ.out, eF]
    exact ⟨rfl, Ext.refl _⟩
structure Pc where
 es : List Edge
 cs : List Spot
 ws : List Int
 ns : List Spot
instance : Inhabited Pc := ⟨⟨[], [], [], []⟩⟩
structure Sm where
 pa : Int
 ea : Int
 pb : Int
 eb : Int
 rev : Bool
 ease : Int
instance : Inhabited Sm := ⟨⟨0, 0, 0, 0, false, 0⟩⟩
/- where a piece lies -/
structure PcA where
 nm : ByteArray
 AE : Option Addr
 nE : Nat
 cE : Nat
 gr : Int
 AN : Option Addr
 nN : Nat
 cN : Nat
 AC : Option Addr
 nC : Nat
 cC : Nat
 AW : Option Addr
 nW : Nat
 cW : Nat
 mt : Bool
abbrev PcA.val (a : PcA) : Value := .agg #[.string a.nm, .slice a.AE a.nE a.cE, .int .i64 a.gr, .slice a.AN a.nN a.cN, .slice a.AC a.nC a.cC, .slice a.AW a.nW a.cW, .bool a.mt]
abbrev PcA.cells (a : PcA) : List Value := [.string a.nm, .slice a.AE a.nE a.cE, .int .i64 a.gr, .slice a.AN a.nN a.cN, .slice a.AC a.nC a.cC, .slice a.AW a.nW a.cW, .bool a.mt]
structure PcAt (w : World) (a : PcA) (p : Pc) : Prop where
 e : EdgesAt w a.AE p.es
 le : p.es.length = a.nE
 ce : a.nE ≤ a.cE
 ce' : a.cE ≤ 9223372036854775807
 c : SpotsAt w a.AC p.cs
 lc : p.cs.length = a.nC
 nc : a.nC ≤ 9223372036854775807
 i : IntsAt w a.AW p.ws
 li : p.ws.length = a.nW
 n : SpotsAt w a.AN p.ns
 ln : p.ns.length = a.nN
 nn : a.nN ≤ 9223372036854775807
 nw : a.nW ≤ 9223372036854775807
theorem PcAt.ext {w w' : World} {a : PcA} {p : Pc} (h : PcAt w a p) (he : Ext w w') : PcAt w' a p :=
 ⟨h.e.ext he, h.le, h.ce, h.ce', h.c.ext he, h.lc, h.nc, h.i.ext he, h.li, h.n.ext he, h.ln, h.nn, h.nw⟩
def gPc (l : List Pc) (k : Nat) : Pc := l.getD k ⟨[], [], [], []⟩
theorem gPc_eq {l : List Pc} {k : Nat} (h : k < l.length) : gPc l k = l[k] := by simp [gPc, h]
/- the cells of a piece in a row -/
structure PcCells (w : World) (b off : Nat) (a : PcA) : Prop where
 c0 : w.cell? ⟨b, off, none⟩ = some (.string a.nm)
 c1 : w.cell? ⟨b, off + 1, none⟩ = some (.slice a.AE a.nE a.cE)
 c2 : w.cell? ⟨b, off + 2, none⟩ = some (.int .i64 a.gr)
 c3 : w.cell? ⟨b, off + 3, none⟩ = some (.slice a.AN a.nN a.cN)
 c4 : w.cell? ⟨b, off + 4, none⟩ = some (.slice a.AC a.nC a.cC)
 c5 : w.cell? ⟨b, off + 5, none⟩ = some (.slice a.AW a.nW a.cW)
 c6 : w.cell? ⟨b, off + 6, none⟩ = some (.bool a.mt)
theorem PcCells.ext {w w' : World} {b off : Nat} {a : PcA} (h : PcCells w b off a) (he : Ext w w') : PcCells w' b off a :=
 ⟨he.cell h.c0, he.cell h.c1, he.cell h.c2, he.cell h.c3, he.cell h.c4, he.cell h.c5, he.cell h.c6⟩
def PiecesAt (w : World) (A : Option Addr) (l : List Pc) : Prop :=
 ∀ k, k < l.length → ∃ b off a, A = some ⟨b, off, none⟩ ∧ PcAt w a (gPc l k) ∧ PcCells w b (off + k * 7) a
theorem PiecesAt.ext {w w' : World} {A : Option Addr} {l : List Pc} (h : PiecesAt w A l) (he : Ext w w') : PiecesAt w' A l := fun k hk => by
 obtain ⟨b, off, a, e, hp, hc⟩ := h k hk
 exact ⟨b, off, a, e, hp.ext he, hc.ext he⟩
theorem PiecesAt.nil {w : World} {A : Option Addr} : PiecesAt w A [] := fun _ hk => absurd hk (Nat.not_lt_zero _)
def gSm (l : List Sm) (k : Nat) : Sm := l.getD k ⟨0, 0, 0, 0, false, 0⟩
theorem gSm_eq {l : List Sm} {k : Nat} (h : k < l.length) : gSm l k = l[k] := by simp [gSm, h]
structure SmCells (w : World) (b off : Nat) (s : Sm) : Prop where
 c0 : w.cell? ⟨b, off, none⟩ = some (.int .i64 s.pa)
 c1 : w.cell? ⟨b, off + 1, none⟩ = some (.int .i64 s.ea)
 c2 : w.cell? ⟨b, off + 2, none⟩ = some (.int .i64 s.pb)
 c3 : w.cell? ⟨b, off + 3, none⟩ = some (.int .i64 s.eb)
 c4 : w.cell? ⟨b, off + 4, none⟩ = some (.bool s.rev)
 c5 : w.cell? ⟨b, off + 5, none⟩ = some (.int .i64 s.ease)
theorem SmCells.ext {w w' : World} {b off : Nat} {s : Sm} (h : SmCells w b off s) (he : Ext w w') : SmCells w' b off s :=
 ⟨he.cell h.c0, he.cell h.c1, he.cell h.c2, he.cell h.c3, he.cell h.c4, he.cell h.c5⟩
def SeamsAt (w : World) (A : Option Addr) (l : List Sm) : Prop :=
 ∀ k, k < l.length → ∃ b off, A = some ⟨b, off, none⟩ ∧ SmCells w b (off + k * 6) (gSm l k)
theorem SeamsAt.ext {w w' : World} {A : Option Addr} {l : List Sm} (h : SeamsAt w A l) (he : Ext w w') : SeamsAt w' A l := fun k hk => by
 obtain ⟨b, off, e, hc⟩ := h k hk
 exact ⟨b, off, e, hc.ext he⟩
theorem SeamsAt.nil {w : World} {A : Option Addr} : SeamsAt w A [] := fun _ hk => absurd hk (Nat.not_lt_zero _)
/- a style: what of it is read here -/
structure Sty where
 ms : List Int
 ps : List Pc
 ss : List Sm
/- where a style lies -/
structure StyA where
 nm : ByteArray
 AS : Option Addr
 nS : Nat
 cS : Nat
 AM : Option Addr
 nM : Nat
 cM : Nat
 AP : Option Addr
 nP : Nat
 cP : Nat
 AU : Option Addr
 nU : Nat
 cU : Nat
 AK : Option Addr
 nK : Nat
 cK : Nat
 AO : Option Addr
 nO : Nat
 cO : Nat
abbrev StyA.val (a : StyA) : Value := .agg #[.string a.nm, .slice a.AS a.nS a.cS, .slice a.AM a.nM a.cM, .slice a.AP a.nP a.cP, .slice a.AU a.nU a.cU, .slice a.AK a.nK a.cK, .slice a.AO a.nO a.cO]
abbrev StyA.cells (a : StyA) : List Value := [.string a.nm, .slice a.AS a.nS a.cS, .slice a.AM a.nM a.cM, .slice a.AP a.nP a.cP, .slice a.AU a.nU a.cU, .slice a.AK a.nK a.cK, .slice a.AO a.nO a.cO]
structure StyAt (w : World) (a : StyA) (s : Sty) : Prop where
 M : IntsAt w a.AM s.ms
 P : PiecesAt w a.AP s.ps
 K : SeamsAt w a.AK s.ss
 lM : s.ms.length = a.nM
 lP : s.ps.length = a.nP
 lK : s.ss.length = a.nK
 bM : a.nM ≤ 9223372036854775807
 bP : a.nP ≤ 9223372036854775807
 bK : a.nK ≤ 9223372036854775807
/- the cells of a block of six -/
theorem blk6 {t : TypeId} {w : World} {g : Nat} {a0 a1 a2 a3 a4 a5 : Value} (h : Blk t w g [a0, a1, a2, a3, a4, a5]) :
  w.cell? ⟨g, 0, none⟩ = some a0 ∧ w.cell? ⟨g, 1, none⟩ = some a1 ∧ w.cell? ⟨g, 2, none⟩ = some a2 ∧ w.cell? ⟨g, 3, none⟩ = some a3 ∧ w.cell? ⟨g, 4, none⟩ = some a4 ∧ w.cell? ⟨g, 5, none⟩ = some a5 :=
 ⟨h.cell 0, h.cell 1, h.cell 2, h.cell 3, h.cell 4, h.cell 5⟩
def edgeB (s : Sty) (p e : Int) : Bool := decide (0 ≤ p ∧ p < s.ps.length ∧ 0 ≤ e ∧ e < (gPc s.ps p.toNat).es.length)
end Go.Proofs.YtfegbaokcbjllaaGreat
/- plain: the partner of a place; no program in sight -/
namespace Go.Proofs.YtfegbaokcbjllaaGreat
def partQ (a t f : Nat) : Nat := (2 * (a * t) + f) / (2 * f)
theorem part_code {a t f : Nat} (hf : 1 ≤ f) : a * t / f + (if f ≤ 2 * (a * t % f) then 1 else 0) = partQ a t f := by
 unfold partQ
 have e := Nat.div_add_mod (a * t) f
 have hm := Nat.mod_lt (a * t) (show f > 0 by omega)
 generalize a * t = X at *
 generalize X / f = q at *
 generalize X % f = r at *
 have e2 : 2 * X + f = (2 * r + f) + 2 * f * q := by rw [← e, Nat.mul_add, Nat.mul_assoc]; omega
 rw [e2, Nat.add_mul_div_left _ _ (by omega)]
 split
 ·rename_i h
  have : (2 * r + f) / (2 * f) = 1 := by rw [Nat.div_eq_iff (by omega)]; omega
  omega
 ·rename_i h
  have : (2 * r + f) / (2 * f) = 0 := Nat.div_eq_of_lt (by omega)
  omega
theorem part_full {t f : Nat} (hf : 1 ≤ f) : partQ f t f = t := by
 rw [← part_code hf, Nat.mul_mod_right, Nat.mul_div_cancel_left _ (by omega), if_neg (by omega)]; rfl
theorem part_mono {a b t f : Nat} (h : a ≤ b) : partQ a t f ≤ partQ b t f := by
 unfold partQ
 exact Nat.div_le_div_right (by have := Nat.mul_le_mul_right t h; omega)
theorem part_le {a t f : Nat} (hf : 1 ≤ f) (h : a ≤ f) : partQ a t f ≤ t := by
 have := part_mono (t := t) (f := f) h
 rwa [part_full hf] at this
end Go.Proofs.YtfegbaokcbjllaaGreat
/- seam.Partner -/
namespace Go.Proofs.YtfegbaokcbjllaaGreat
open Go.RowKit
def prtB (f t a : Int) : Bool := decide (1 ≤ f ∧ f ≤ 1099511627776 ∧ 0 ≤ t ∧ t ≤ 1099511627776 ∧ 0 ≤ a ∧ a ≤ f)
def partN (f t : Int) (r : Bool) (a : Int) : Int := if r = true then t - (partQ a.toNat t.toNat f.toNat : Int) else (partQ a.toNat t.toNat f.toNat : Int)
def partV (f t : Int) (r : Bool) (a : Int) : Int := if prtB f t a = true then partN f t r a else 0
def partE (f t a : Int) : Int := if prtB f t a = true then 0 else 3
def RetPt (w : World) (f t : Int) (r : Bool) (a : Int) (e : Ending) (w' : World) : Prop := e = .returned (.tuple #[.int .i64 (partV f t r a), .int .i64 (partE f t a)]) ∧ Ext w w'
theorem retPt_bad {w : World} {f t a : Int} {r : Bool} (h : ¬ (1 ≤ f ∧ f ≤ 1099511627776 ∧ 0 ≤ t ∧ t ≤ 1099511627776 ∧ 0 ≤ a ∧ a ≤ f)) : RetPt w f t r a (.returned (.tuple #[.int .i64 0, .int .i64 3])) w := by
 have hb : prtB f t a = false := decide_eq_false h
 refine ⟨?_, Ext.refl _⟩
 unfold partV partE
 rw [hb]; rfl
theorem retPt_ok {w w' : World} {f t a : Int} {r : Bool} {x : Int} (h : 1 ≤ f ∧ f ≤ 1099511627776 ∧ 0 ≤ t ∧ t ≤ 1099511627776 ∧ 0 ≤ a ∧ a ≤ f) (hx : x = partN f t r a) (he : Ext w w') : RetPt w f t r a (.returned (.tuple #[.int .i64 x, .int .i64 0])) w' := by
 have hb : prtB f t a = true := decide_eq_true h
 refine ⟨?_, he⟩
 unfold partV partE
 rw [hb, if_pos rfl, if_pos rfl, hx]
set_option maxRecDepth 100000 in
set_option maxHeartbeats 1600000 in
theorem partner_any (f t a : Int) (r : Bool) (w : World) :
  Calls Tryz.prog 77 #[.int .i64 f, .int .i64 t, .bool r, .int .i64 a] w (RetPt w f t r a) := by
 by_cases h1 : f < 1
 ·go_enter Tryz.func77, Tryz.ntmps77
  go_wp2_with fail
  go_ret2
  exact retPt_bad (by omega)
 by_cases h2 : 1099511627776 < f
 ·go_enter Tryz.func77, Tryz.ntmps77
  go_wp2_with fail
  go_ret2
  exact retPt_bad (by omega)
 by_cases h3 : t < 0
 ·go_enter Tryz.func77, Tryz.ntmps77
  go_wp2_with fail
  go_ret2
  exact retPt_bad (by omega)
 by_cases h4 : 1099511627776 < t
 ·go_enter Tryz.func77, Tryz.ntmps77
  go_wp2_with fail
  go_ret2
  exact retPt_bad (by omega)
 by_cases h5 : a < 0
 ·go_enter Tryz.func77, Tryz.ntmps77
  go_wp2_with fail
  go_ret2
  exact retPt_bad (by omega)
 by_cases h6 : f < a
 ·go_enter Tryz.func77, Tryz.ntmps77
  go_wp2_with fail
  go_ret2
  exact retPt_bad (by omega)
 obtain ⟨F, rfl⟩ := Int.eq_ofNat_of_zero_le (show 0 ≤ f by omega)
 obtain ⟨T, rfl⟩ := Int.eq_ofNat_of_zero_le (show 0 ≤ t by omega)
 obtain ⟨X, rfl⟩ := Int.eq_ofNat_of_zero_le (show 0 ≤ a by omega)
 have HOK : Hid (1 ≤ (F : Int) ∧ (F : Int) ≤ 1099511627776 ∧ 0 ≤ (T : Int) ∧ (T : Int) ≤ 1099511627776 ∧ 0 ≤ (X : Int) ∧ (X : Int) ≤ (F : Int)) := ⟨by omega, by omega, by omega, by omega, by omega, by omega⟩
 have hF1 : 1 ≤ F := by omega
 have hF2 : F ≤ 1099511627776 := by omega
 have hT2 : T ≤ 1099511627776 := by omega
 have hX2 : X ≤ F := by omega
 have ux : IntKind.u64.wrap (X : Int) = (X : Int) := u64_wrap X (by omega)
 have ut : IntKind.u64.wrap (T : Int) = (T : Int) := u64_wrap T (by omega)
 have uf : IntKind.u64.wrap (F : Int) = (F : Int) := u64_wrap F (by omega)
 have hle : X * T ≤ F * 1099511627776 := Nat.mul_le_mul hX2 hT2
 have hhi : X * T / 18446744073709551616 < F := by
  rw [Nat.div_lt_iff_lt_mul (by omega)]
  have : F * 1099511627776 < F * 18446744073709551616 := Nat.mul_lt_mul_of_pos_left (by omega) (by omega)
  omega
 go_enter Tryz.func77, Tryz.ntmps77
 go_wp2_with fail
 refine (mul64_any X T (by omega) (by omega) _).mono ?_
 rintro e w1 ⟨rfl, rfl⟩
 obtain ⟨HI, hHI⟩ : ∃ HI, HI = X * T / 18446744073709551616 := ⟨_, rfl⟩
 obtain ⟨LO, hLO⟩ : ∃ LO, LO = X * T % 18446744073709551616 := ⟨_, rfl⟩
 rw [← hHI, ← hLO]
 rw [← hHI] at hhi
 have hlo : LO < 18446744073709551616 := by rw [hLO]; exact Nat.mod_lt _ (by omega)
 have HSUM : Hid (HI * 18446744073709551616 + LO = X * T) := by
  show _ = _
  rw [hHI, hLO, Nat.mul_comm]; exact Nat.div_add_mod _ _
 clear hHI hLO ux ut
 go_wp2_with fail
 refine (div64_any HI LO F _ hlo hhi (by omega)).mono ?_
 rintro e w2 ⟨rfl, he2⟩
 rw [HSUM.out]
 have HXX := Lib.hid he2
 have hle2 : partQ X T F ≤ T := part_le hF1 hX2
 have hcode := part_code (a := X) (t := T) (f := F) hF1
 obtain ⟨Q, hQ⟩ : ∃ Q, Q = X * T / F := ⟨_, rfl⟩
 obtain ⟨R, hR⟩ : ∃ R, R = X * T % F := ⟨_, rfl⟩
 have hRl : R < F := by rw [hR]; exact Nat.mod_lt _ (by omega)
 rw [← hQ, ← hR] at hcode ⊢
 obtain ⟨N, hN⟩ : ∃ N, N = partQ X T F := ⟨_, rfl⟩
 rw [← hN] at hle2 hcode
 have HN : Hid (∀ r, partN (F : Int) (T : Int) r (X : Int) = if r = true then (T : Int) - (N : Int) else (N : Int)) := fun r => by unfold partN; rw [hN]; simp
 have u2 : IntKind.u64.wrap (2 * (R : Int)) = 2 * (R : Int) := by rw [IntKind.wrap_u64]; omega
 have u3 : IntKind.u64.wrap ((Q : Int) + 1) = (Q : Int) + 1 := by rw [IntKind.wrap_u64]; split at hcode <;> omega
 have u4 : IntKind.i64.wrap ((Q : Int) + 1) = (Q : Int) + 1 := IntWalk.i64_in _ (by split at hcode <;> omega)
 have u5 : IntKind.i64.wrap (Q : Int) = (Q : Int) := IntWalk.i64_in _ (by split at hcode <;> omega)
 clear he2 hQ hR hN hle hlo hhi HSUM
 by_cases hc : F ≤ 2 * R
 ·rw [if_pos hc] at hcode
  have hci : (F : Int) ≤ 2 * (R : Int) := by omega
  cases r
  ·go_wp2_with fail
   go_ret2
   exact retPt_ok HOK.out (by rw [HN.out]; simp; omega) HXX.out
  ·go_wp2_with fail
   go_ret2
   exact retPt_ok HOK.out (by rw [HN.out]; simp; omega) HXX.out
 ·rw [if_neg hc] at hcode
  have hci : ¬ (F : Int) ≤ 2 * (R : Int) := by omega
  cases r
  ·go_wp2_with fail
   go_ret2
   exact retPt_ok HOK.out (by rw [HN.out]; simp; omega) HXX.out
  ·go_wp2_with fail
   go_ret2
   exact retPt_ok HOK.out (by rw [HN.out]; simp; omega) HXX.out
theorem lenTo_map {T : Spot → Spot} {l : List Spot} (hT : ∀ a b, inB a → inB b → seg (T a) (T b) = seg a b) (hl : ∀ k, k < l.length → inB (gS l k)) : ∀ k, k ≤ l.length - 1 → lenTo (l.map T) k = lenTo l k
 |0, _ => rfl
 |k + 1, hk => by
  simp only [lenTo]
  rw [lenTo_map hT hl k (by omega), gS_map (by omega), gS_map (by omega), hT _ _ (hl _ (by omega)) (hl _ (by omega))]
theorem lengthN_bd (l : List Spot) : lengthN l ≤ 1000000000000 := by
 unfold lengthN
 split
 ·omega
 ·rename_i h
  obtain ⟨h2, h40, hin⟩ := lcheck_zero (l := l) (by omega)
  have := lenTo_le hin (l.length - 1) (by omega)
  have : (l.length - 1) * 4294967296 ≤ 39 * 4294967296 := Nat.mul_le_mul (by omega) (by omega)
  omega
theorem graded_lines {es : List Edge} {cs : List Spot} {m : Int} (h : gradedR es cs m = 0) {k : Nat} (hk : k < es.length) : lcheck (gE (gradedE es cs m) k).2 = 0 :=
 ocheck_line ((gradedR_iff es cs m).1 h).ok' (by rw [gradedE_len]; exact hk)
def baseN (p : Pc) (k : Nat) : Nat := lengthN (gE p.es k).2
def grdN (p : Pc) (m : Int) (k : Nat) : Nat := lengthN (gE (gradedE p.es p.cs m) k).2
/- the error and the place of a notch -/
def ntE (p : Pc) (m : Int) (i : Nat) : Int := if (gS p.ns i).1 < 0 ∨ (p.es.length : Int) ≤ (gS p.ns i).1 then 3 else partE (baseN p (gS p.ns i).1.toNat) (grdN p m (gS p.ns i).1.toNat) (gS p.ns i).2
def plV (p : Pc) (m : Int) (i : Nat) : Int := partV (baseN p (gS p.ns i).1.toNat) (grdN p m (gS p.ns i).1.toNat) false (gS p.ns i).2
def plTo (p : Pc) (m : Int) (k : Nat) : List Int := (List.range k).map (plV p m)
def plL (p : Pc) (m : Int) : List Int := plTo p m p.ns.length
def plE (p : Pc) (m : Int) : Int := if gradedR p.es p.cs m ≠ 0 then gradedR p.es p.cs m else if 16 < p.ns.length then 5 else firstE (ntE p m) p.ns.length
theorem plTo_succ (p : Pc) (m : Int) (k : Nat) : plTo p m (k + 1) = plTo p m k ++ [plV p m k] := by unfold plTo; rw [List.range_succ, List.map_append]; rfl
theorem plTo_len (p : Pc) (m : Int) (k : Nat) : (plTo p m k).length = k := by simp [plTo]
/- when a notch has a place -/
structure NtOk (p : Pc) (m : Int) (i : Nat) : Prop where
 e0 : 0 ≤ (gS p.ns i).1
 e1 : (gS p.ns i).1 < p.es.length
 b1 : 1 ≤ baseN p (gS p.ns i).1.toNat
 a0 : 0 ≤ (gS p.ns i).2
 a1 : (gS p.ns i).2 ≤ baseN p (gS p.ns i).1.toNat
theorem prtB_iff {f t a : Int} : prtB f t a = true ↔ 1 ≤ f ∧ f ≤ 1099511627776 ∧ 0 ≤ t ∧ t ≤ 1099511627776 ∧ 0 ≤ a ∧ a ≤ f := by unfold prtB; exact decide_eq_true_iff
theorem partE_zero {f t a : Int} : partE f t a = 0 ↔ prtB f t a = true := by
 unfold partE
 split
 ·rename_i h; simp [h]
 ·rename_i h; simp [h]
theorem ntE_zero {p : Pc} {m : Int} {i : Nat} : ntE p m i = 0 ↔ NtOk p m i := by
 unfold ntE
 split
 ·rename_i h
  constructor
  ·intro h; cases h
  ·intro h'; have := h'.e0; have := h'.e1; omega
 ·rename_i h
  rw [partE_zero, prtB_iff]
  constructor
  ·intro h'; exact ⟨by omega, by omega, by omega, by omega, by omega⟩
  ·intro h'
   have h1 := lengthN_bd (gE p.es (gS p.ns i).1.toNat).2
   have h2 := lengthN_bd (gE (gradedE p.es p.cs m) (gS p.ns i).1.toNat).2
   have := h'.b1; have := h'.a0; have := h'.a1
   unfold baseN grdN at *
   omega
structure PlOk (p : Pc) (m : Int) : Prop where
 g : gradedR p.es p.cs m = 0
 n : p.ns.length ≤ 16
 i : ∀ i, i < p.ns.length → NtOk p m i
theorem plE_zero {p : Pc} {m : Int} : plE p m = 0 ↔ PlOk p m := by
 unfold plE
 constructor
 ·intro h
  split at h
  ·rename_i h1; exact absurd h h1
  split at h
  ·cases h
  ·rename_i h1 h2
   exact ⟨Classical.not_not.1 h1, by omega, fun i hi => ntE_zero.1 ((firstE_zero _ _).1 h i hi)⟩
 ·rintro ⟨h1, h2, h3⟩
  rw [if_neg (fun h => h h1), if_neg (by omega)]
  exact (firstE_zero _ _).2 fun i hi => ntE_zero.2 (h3 i hi)
structure PcX where
 nm : ByteArray
 gr : Int
 p : Pc
instance : Inhabited PcX := ⟨⟨⟨#[]⟩, 0, ⟨[], [], [], []⟩⟩⟩
def gPx (l : List PcX) (k : Nat) : PcX := l.getD k ⟨⟨#[]⟩, 0, ⟨[], [], [], []⟩⟩
theorem gPx_eq {l : List PcX} {k : Nat} (h : k < l.length) : gPx l k = l[k] := by simp [gPx, h]
def PiecesX (w : World) (A : Option Addr) (l : List PcX) : Prop :=
 ∀ k, k < l.length → ∃ b off a, A = some ⟨b, off, none⟩ ∧ PcAt w a (gPx l k).p ∧ PcCells w b (off + k * 7) a ∧ a.nm = (gPx l k).nm ∧ a.gr = (gPx l k).gr
theorem PiecesX.ext {w w' : World} {A : Option Addr} {l : List PcX} (h : PiecesX w A l) (he : Ext w w') : PiecesX w' A l := fun k hk => by
 obtain ⟨b, off, a, e, hp, hc, h1, h2⟩ := h k hk
 exact ⟨b, off, a, e, hp.ext he, hc.ext he, h1, h2⟩
theorem gPc_x {l : List PcX} {k : Nat} (h : k < l.length) : gPc (l.map PcX.p) k = (gPx l k).p := by
 rw [gPc_eq (by simpa using h), gPx_eq h]; simp
theorem PiecesX.pcs {w : World} {A : Option Addr} {l : List PcX} (h : PiecesX w A l) : PiecesAt w A (l.map PcX.p) := fun k hk => by
 have hk' : k < l.length := by simpa using hk
 obtain ⟨b, off, a, e, hp, hc, _⟩ := h k hk'
 exact ⟨b, off, a, e, by rw [gPc_x hk']; exact hp, hc⟩
theorem PiecesX.take {w : World} {A : Option Addr} {l : List PcX} (h : PiecesX w A l) (n : Nat) : PiecesX w A (l.take n) := fun k hk => by
 have hk' : k < l.length := by rw [List.length_take] at hk; omega
 have e : gPx (l.take n) k = gPx l k := by rw [gPx_eq hk, gPx_eq hk']; simp
 rw [e]; exact h k hk'
/- strings -/
def gB (l : List ByteArray) (k : Nat) : ByteArray := l.getD k ⟨#[]⟩
theorem gB_eq {l : List ByteArray} {k : Nat} (h : k < l.length) : gB l k = l[k] := by simp [gB, h]
def StrsAt (w : World) (A : Option Addr) (l : List ByteArray) : Prop := ∀ k, k < l.length → ∃ b off, A = some ⟨b, off, none⟩ ∧ w.cell? ⟨b, off + k, none⟩ = some (.string (gB l k))
theorem StrsAt.ext {w w' : World} {A : Option Addr} {l : List ByteArray} (h : StrsAt w A l) (he : Ext w w') : StrsAt w' A l := fun k hk => by
 obtain ⟨b, off, e, h0⟩ := h k hk
 exact ⟨b, off, e, he.cell h0⟩
/- uses -/
structure UsX where
 pc : Int
 ct : Int
 pr : Bool
instance : Inhabited UsX := ⟨⟨0, 0, false⟩⟩
def gU (l : List UsX) (k : Nat) : UsX := l.getD k ⟨0, 0, false⟩
def UsesAt (w : World) (A : Option Addr) (l : List UsX) : Prop := ∀ k, k < l.length → ∃ b off, A = some ⟨b, off, none⟩ ∧ w.cell? ⟨b, off + k * 3, none⟩ = some (.int .i64 (gU l k).pc) ∧ w.cell? ⟨b, off + k * 3 + 1, none⟩ = some (.int .i64 (gU l k).ct) ∧ w.cell? ⟨b, off + k * 3 + 2, none⟩ = some (.bool (gU l k).pr)
theorem UsesAt.ext {w w' : World} {A : Option Addr} {l : List UsX} (h : UsesAt w A l) (he : Ext w w') : UsesAt w' A l := fun k hk => by
 obtain ⟨b, off, e, h0, h1, h2⟩ := h k hk
 exact ⟨b, off, e, he.cell h0, he.cell h1, he.cell h2⟩
structure StyX where
 nm : ByteArray
 sz : List ByteArray
 ms : List Int
 ps : List PcX
 us : List UsX
 ss : List Sm
 no : Nat
def StyX.s (x : StyX) : Sty := ⟨x.ms, x.ps.map PcX.p, x.ss⟩
structure StyXAt (w : World) (a : StyA) (x : StyX) : Prop where
 nm : a.nm = x.nm
 S : StrsAt w a.AS x.sz
 M : IntsAt w a.AM x.ms
 P : PiecesX w a.AP x.ps
 U : UsesAt w a.AU x.us
 K : SeamsAt w a.AK x.ss
 lS : x.sz.length = a.nS
 lM : x.ms.length = a.nM
 lP : x.ps.length = a.nP
 lU : x.us.length = a.nU
 lK : x.ss.length = a.nK
 lO : a.nO = x.no
 bS : a.nS ≤ 9223372036854775807
 bM : a.nM ≤ 9223372036854775807
 bP : a.nP ≤ 9223372036854775807
 bU : a.nU ≤ 9223372036854775807
 bK : a.nK ≤ 9223372036854775807
 bO : a.nO ≤ 9223372036854775807
 cP : a.nP ≤ a.cP
 cS : a.nS ≤ a.cS
theorem StyXAt.ext {w w' : World} {a : StyA} {x : StyX} (h : StyXAt w a x) (he : Ext w w') : StyXAt w' a x :=
 ⟨h.nm, h.S.ext he, h.M.ext he, h.P.ext he, h.U.ext he, h.K.ext he, h.lS, h.lM, h.lP, h.lU, h.lK, h.lO, h.bS, h.bM, h.bP, h.bU, h.bK, h.bO, h.cP, h.cS⟩
theorem StyXAt.sty {w : World} {a : StyA} {x : StyX} (h : StyXAt w a x) : StyAt w a x.s :=
 ⟨h.M, h.P.pcs, h.K, h.lM, by simp only [StyX.s, List.length_map]; exact h.lP, h.lK, h.bM, h.bP, h.bK⟩
/- a size -/
def szC (c : UInt8) : Bool := (decide (65 ≤ c.toNat) && decide (c.toNat ≤ 90)) || (decide (48 ≤ c.toNat) && decide (c.toNat ≤ 57))
def szB (s : ByteArray) : Bool := s.data.toList.all szC && decide (1 ≤ s.size ∧ s.size ≤ 8)
/- two sizes alike among the first k -/
def szDupF (l : List ByteArray) (i : Nat) : Bool := decide ((gB l i).data.toList ∈ (l.take i).map fun x => x.data.toList)
def szDup (l : List ByteArray) (k : Nat) : Bool := (List.range k).any (szDupF l)
def wholeE (x : StyX) : Int :=
 if nameB x.nm = false ∨ x.sz.length = 0 then 1
 else if allB (fun i => szB (gB x.sz i)) x.sz.length = false then 1
 else if x.ms.length ≠ x.sz.length ∨ ¬ (0 : Int) ∈ x.ms then 1
 else if szDup x.sz x.sz.length = true then 7
 else if 12 < x.sz.length ∨ 12 < x.ps.length ∨ 12 < x.us.length then 5
 else if 24 < x.ss.length ∨ 16 < x.no then 5
 else if allB (fun i => decide (-100 ≤ gI x.ms i ∧ gI x.ms i ≤ 100)) x.ms.length = false then 3 else 0
def pieceE (l : List PcX) (k : Nat) : Int :=
 if nameB (gPx l k).nm = false then 1
 else if (gPx l k).gr ≠ 1 ∧ (gPx l k).gr ≠ 2 ∧ (gPx l k).gr ≠ 4 then 1
 else if (List.range k).any (fun j => decide ((gPx l j).nm.data.toList = (gPx l k).nm.data.toList)) = true then 7
 else if gradedR (gPx l k).p.es (gPx l k).p.cs 0 ≠ 0 then gradedR (gPx l k).p.es (gPx l k).p.cs 0
 else if plE (gPx l k).p 0 ≠ 0 then plE (gPx l k).p 0
 else if (gPx l k).p.ws.length ≠ (gPx l k).p.es.length then 1
 else if allB (fun i => decide (0 ≤ gI (gPx l k).p.ws i ∧ gI (gPx l k).p.ws i ≤ 500)) (gPx l k).p.ws.length = false then 3 else 0
def useE (x : StyX) (k : Nat) : Int := if (gU x.us k).pc < 0 ∨ (x.ps.length : Int) ≤ (gU x.us k).pc ∨ (gU x.us k).ct < 1 ∨ 4 < (gU x.us k).ct then 3 else 0
def joinE (x : StyX) (k : Nat) : Int := if ¬ (edgeB x.s (gSm x.ss k).pa (gSm x.ss k).ea = true ∧ edgeB x.s (gSm x.ss k).pb (gSm x.ss k).eb = true) then 3 else if (gSm x.ss k).ease < 0 then 1 else 0
def styE (x : StyX) : Int :=
 if wholeE x ≠ 0 then wholeE x
 else if firstE (pieceE x.ps) x.ps.length ≠ 0 then firstE (pieceE x.ps) x.ps.length
 else if firstE (useE x) x.us.length ≠ 0 then firstE (useE x) x.us.length
 else firstE (joinE x) x.ss.length
end Go.Proofs.YtfegbaokcbjllaaGreat
