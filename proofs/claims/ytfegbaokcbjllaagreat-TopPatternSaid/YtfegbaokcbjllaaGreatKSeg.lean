/- polyline.segment, Length -/
import Derived.IntWalk
import Derived.Test.YtfegbaokcbjllaaGreatKChk
/- math/bits.Len, and plain facts on roots -/
namespace Go.Proofs.YtfegbaokcbjllaaGreat
open Go.RowKit
def tabOk (T : ByteArray) : Bool := T.size == 256 && (List.range 256).all fun k => decide (k < 2 ^ (T.data.getD k 0).toNat) && (decide ((T.data.getD k 0).toNat ≤ 8) && (decide (128 ≤ k) || decide ((T.data.getD k 0).toNat ≤ 7)))
theorem tab_get {T : ByteArray} {k : Nat} (h : k < T.size) (hT : tabOk T = true) : k < 2 ^ (T[k]'h).toNat ∧ (T[k]'h).toNat ≤ 8 ∧ (k < 128 → (T[k]'h).toNat ≤ 7) := by
 have e : T.data.getD k 0 = T[k]'h := by
  have h' : k < T.data.size := h
  simp only [Array.getD, dif_pos h']
  rfl
 unfold tabOk at hT
 rw [Bool.and_eq_true] at hT
 have hs : T.size = 256 := by simpa using hT.1
 have := List.all_eq_true.1 hT.2 k (List.mem_range.2 (by omega))
 rw [e] at this
 simp at this
 obtain ⟨a, b, c⟩ := this
 exact ⟨a, b, fun hk => by rcases c with c | c <;> omega⟩
theorem len_fin {T : ByteArray} {x y K' v : Int} {K : Nat} {w : World} (h : y.toNat < T.size) (hT : tabOk T = true) (hv : v = wrap64 (K' + wrap64 ((T[y.toNat]'h).toNat : Int))) (hK : K' = K) (hK' : K ≤ 56) (h0 : 0 ≤ x) (h1 : x ≤ 9223372036854775807) (hy : y = x / ((2 ^ K : Nat) : Int)) :
  ∃ L : Nat, Ending.returned (Value.int .i64 v) = .returned (.int .i64 (L : Int)) ∧ L ≤ 63 ∧ x.toNat < 2 ^ L ∧ w = w := by
 obtain ⟨a, b, c⟩ := tab_get h hT
 obtain ⟨t, ht⟩ : ∃ t, t = (T[y.toNat]'h).toNat := ⟨_, rfl⟩
 rw [← ht] at a b c hv
 have e : v = ((K + t : Nat) : Int) := by
  rw [hv, hK, show wrap64 (t : Int) = t from IntWalk.wrap64_in _ ⟨by omega, by omega⟩, IntWalk.wrap64_in _ ⟨by omega, by omega⟩]; omega
 refine ⟨K + t, by rw [e], ?_, ?_, rfl⟩
 ·by_cases hK2 : K + 8 ≤ 63
  ·omega
  ·obtain rfl : K = 56 := by
    have : K ≤ 56 := hK'
    omega
   have : y.toNat < 128 := by rw [hy]; omega
   have := c this
   omega
 ·have hp : 0 < 2 ^ K := Nat.pow_pos (by omega)
  have h2 : x.toNat / 2 ^ K < 2 ^ t := by
   have : y.toNat = x.toNat / 2 ^ K := by
    rw [hy]
    obtain ⟨n, rfl⟩ := Int.eq_ofNat_of_zero_le h0
    rw [← Int.natCast_ediv]; exact Int.toNat_natCast _
   rw [← this]; exact a
  rw [Nat.pow_add, Nat.mul_comm]
  exact (Nat.div_lt_iff_lt_mul hp).1 h2
theorem len_fin0 {T : ByteArray} {x y v : Int} {w : World} (h : y.toNat < T.size) (hT : tabOk T = true) (hv : v = wrap64 (wrap64 ((T[y.toNat]'h).toNat : Int))) (h0 : 0 ≤ x) (h1 : x ≤ 9223372036854775807) (hy : y = x) :
  ∃ L : Nat, Ending.returned (Value.int .i64 v) = .returned (.int .i64 (L : Int)) ∧ L ≤ 63 ∧ x.toNat < 2 ^ L ∧ w = w :=
 len_fin (K := 0) (K' := 0) h hT (by
  obtain ⟨_, b, _⟩ := tab_get h hT
  have e : wrap64 ((T[y.toNat]'h).toNat : Int) = (T[y.toNat]'h).toNat := IntWalk.wrap64_in _ ⟨by omega, by omega⟩
  rw [hv, e, Int.zero_add]) rfl (by omega) h0 h1 (by rw [hy]; simp)
set_option maxRecDepth 100000 in
set_option maxHeartbeats 1600000 in
theorem len64_any (x : Int) (w : World) (h0 : 0 ≤ x) (h1 : x ≤ 9223372036854775807) :
  Calls Tryz.prog 117 #[.int .u64 x] w fun e w' => ∃ L : Nat, e = .returned (.int .i64 (L : Int)) ∧ L ≤ 63 ∧ x.toNat < 2 ^ L ∧ w' = w := by
 by_cases g1 : 4294967296 ≤ x
 ·by_cases g2 : 65536 ≤ x / 4294967296
  ·by_cases g3 : 256 ≤ (x / 4294967296) / 65536
   ·go_enter Tryz.func117, Tryz.ntmps117
    go_wp2_with fail
    go_ret
    exact len_fin (K := 56) (K' := 56) _ (by decide +kernel) rfl rfl (by omega) h0 h1 (by omega)
   ·go_enter Tryz.func117, Tryz.ntmps117
    go_wp2_with fail
    go_ret
    exact len_fin (K := 48) (K' := 48) _ (by decide +kernel) rfl rfl (by omega) h0 h1 (by omega)
  ·by_cases g3 : 256 ≤ x / 4294967296
   ·go_enter Tryz.func117, Tryz.ntmps117
    go_wp2_with fail
    go_ret
    exact len_fin (K := 40) (K' := 40) _ (by decide +kernel) rfl rfl (by omega) h0 h1 (by omega)
   ·go_enter Tryz.func117, Tryz.ntmps117
    go_wp2_with fail
    go_ret
    exact len_fin (K := 32) (K' := 32) _ (by decide +kernel) rfl rfl (by omega) h0 h1 (by omega)
 ·by_cases g2 : 65536 ≤ x
  ·by_cases g3 : 256 ≤ x / 65536
   ·go_enter Tryz.func117, Tryz.ntmps117
    go_wp2_with fail
    go_ret
    exact len_fin (K := 24) (K' := 24) _ (by decide +kernel) rfl rfl (by omega) h0 h1 (by omega)
   ·go_enter Tryz.func117, Tryz.ntmps117
    go_wp2_with fail
    go_ret
    exact len_fin (K := 16) (K' := 16) _ (by decide +kernel) rfl rfl (by omega) h0 h1 (by omega)
  ·by_cases g3 : 256 ≤ x
   ·go_enter Tryz.func117, Tryz.ntmps117
    go_wp2_with fail
    go_ret
    exact len_fin (K := 8) (K' := 8) _ (by decide +kernel) rfl rfl (by omega) h0 h1 (by omega)
   ·go_enter Tryz.func117, Tryz.ntmps117
    go_wp2_with fail
    go_ret
    exact len_fin0 _ (by decide +kernel) rfl h0 h1 rfl
theorem bits_len (x : Int) (w : World) (h0 : 0 ≤ x) (h1 : x ≤ 9223372036854775807) :
  Calls Tryz.prog 95 #[.int .u64 x] w fun e w' => ∃ L : Nat, e = .returned (.int .i64 (L : Int)) ∧ L ≤ 63 ∧ x.toNat < 2 ^ L ∧ w' = w := by
 go_enter Tryz.func95, Tryz.ntmps95
 go_wp2_with fail
 refine (len64_any x _ h0 h1).mono ?_
 rintro e w1 ⟨L, rfl, hL, hx, rfl⟩
 have HL := Lib.hid hL; have HX := Lib.hid hx; clear hL hx
 go_wp2_with fail
 go_ret
 exact ⟨L, rfl, HL.out, HX.out, rfl⟩
/- the square root, binary digit by binary digit -/
def rootTo : Nat → Nat → Nat → Nat
 |0, _, o => o
 |k + 1, n, o => if (o + 2 ^ k) * (o + 2 ^ k) ≤ n then rootTo k n (o + 2 ^ k) else rootTo k n o
def rootN (n : Nat) : Nat := rootTo 32 n 0
theorem rootTo_is : ∀ (k n o : Nat), o * o ≤ n → n < (o + 2 ^ k) * (o + 2 ^ k) →
  rootTo k n o * rootTo k n o ≤ n ∧ n < (rootTo k n o + 1) * (rootTo k n o + 1)
 |0, n, o, h0, h1 => by simpa [rootTo] using ⟨h0, h1⟩
 |k + 1, n, o, h0, h1 => by
  simp only [rootTo]
  split
  ·rename_i h
   exact rootTo_is k n _ h (by rw [Nat.add_assoc]; rw [Nat.pow_succ, Nat.mul_two] at h1; exact h1)
  ·rename_i h
   exact rootTo_is k n _ h0 (by omega)
theorem rootN_is (n : Nat) (h : n < 18446744073709551616) : rootN n * rootN n ≤ n ∧ n < (rootN n + 1) * (rootN n + 1) :=
 rootTo_is 32 n 0 (by omega) (by simpa using h)
theorem root_one {n r s : Nat} (h1 : r * r ≤ n) (h2 : n < (r + 1) * (r + 1)) (h3 : s * s ≤ n) (h4 : n < (s + 1) * (s + 1)) : r = s := by
 rcases Nat.lt_trichotomy r s with h | h | h
 ·have := Nat.mul_le_mul (show r + 1 ≤ s from h) (show r + 1 ≤ s from h); omega
 ·exact h
 ·have := Nat.mul_le_mul (show s + 1 ≤ r from h) (show s + 1 ≤ r from h); omega
theorem sq_add (a b : Int) : (a + b) * (a + b) = 4 * (a * b) + (a - b) * (a - b) := by
 simp only [Int.mul_add, Int.add_mul, Int.mul_sub, Int.sub_mul, Int.mul_comm b a]; omega
/- one step of Newton's rule stays above the root -/
theorem newton {x n : Int} (hx : 0 < x) (hn : 0 ≤ n) : n < ((x + n / x) / 2 + 1) * ((x + n / x) / 2 + 1) := by
 have hq : n < x * (n / x + 1) := by
  have h1 := Int.emod_lt_of_pos n hx
  have h2 := Int.mul_ediv_add_emod n x
  rw [Int.mul_add, Int.mul_one]; omega
 have hq0 : 0 ≤ n / x := Int.ediv_nonneg hn (by omega)
 generalize n / x = q at *
 obtain ⟨y, hy⟩ : ∃ y, y = (x + q) / 2 := ⟨_, rfl⟩
 rw [← hy]
 have e1 := sq_add x (q + 1)
 have e2 : 0 ≤ (x - (q + 1)) * (x - (q + 1)) := by
  rcases Int.le_total 0 (x - (q + 1)) with h | h
  ·exact Int.mul_nonneg h h
  ·have := Int.mul_nonneg (show 0 ≤ -(x - (q + 1)) by omega) (show 0 ≤ -(x - (q + 1)) by omega)
   rwa [Int.neg_mul_neg] at this
 have h3 : x + (q + 1) ≤ 2 * (y + 1) := by omega
 have h4 := Int.mul_le_mul h3 h3 (by omega) (by omega)
 have e3 : 2 * (y + 1) * (2 * (y + 1)) = 4 * ((y + 1) * (y + 1)) := by
  rw [Int.mul_assoc 2, Int.mul_left_comm (y + 1) 2, ← Int.mul_assoc 2 2]; rfl
 omega
theorem root_start {n L : Nat} (h1 : L ≤ 63) (hx : n < 2 ^ L) : (L + 1) / 2 ≤ 32 ∧ n < 2 ^ ((L + 1) / 2) * 2 ^ ((L + 1) / 2) := by
 refine ⟨by omega, ?_⟩
 refine Nat.lt_of_lt_of_le hx ?_
 rw [← Nat.pow_add]
 exact Nat.pow_le_pow_right (by omega) (by omega)
theorem newton_step (x n : Nat) (h0 : 2 ≤ n) (hx0 : 0 < x) (hx1 : x ≤ 4294967296) (hx2 : n < (x + 1) * (x + 1)) :
  0 ≤ (n : Int) / x ∧ (n : Int) / x ≤ x + 2 ∧ ∃ y : Nat, ((x : Int) + n / x) / 2 = y ∧ 0 < y ∧ y ≤ 4294967297 ∧ n < (y + 1) * (y + 1) ∧ (x ≤ y → x * x ≤ n) := by
 have hq0 : 0 ≤ (n : Int) / x := Int.ediv_nonneg (by omega) (by omega)
 have h1 : (x : Int) * ((n : Int) / x) ≤ n := Int.mul_ediv_self_le (by omega)
 have hq1 : (n : Int) / x ≤ x + 2 := by
  have h2 : (n : Int) < (x + 1) * (x + 1) := by exact_mod_cast hx2
  rcases Int.lt_or_le ((x : Int) + 2) (n / x) with h | h
  ·have h3 : (x : Int) * (x + 3) ≤ x * (n / x) := Int.mul_le_mul_of_nonneg_left (by omega) (by omega)
   simp only [Int.mul_add, Int.add_mul, Int.mul_one, Int.one_mul] at h2 h3
   omega
  ·exact h
 have hy0 := newton (x := x) (n := n) (by omega) (by omega)
 have hxq : 2 ≤ (x : Int) + n / x := by
  rcases Int.lt_or_le (x + (n : Int) / x) 2 with h | h
  ·obtain rfl : x = 1 := by omega
   simp at h
   omega
  ·exact h
 refine ⟨hq0, hq1, (((x : Int) + n / x) / 2).toNat, ?_, by omega, by omega, ?_, ?_⟩
 ·rw [Int.toNat_of_nonneg (by omega)]
 ·have : (((((x : Int) + n / x) / 2).toNat : Nat) : Int) = ((x : Int) + n / x) / 2 := Int.toNat_of_nonneg (by omega)
  have h5 : (n : Int) < ((((((x : Int) + n / x) / 2).toNat : Nat) : Int) + 1) * ((((((x : Int) + n / x) / 2).toNat : Nat) : Int) + 1) := by rw [this]; exact hy0
  exact_mod_cast h5
 ·intro hge
  have h3 : (x : Int) * x ≤ x * (n / x) := Int.mul_le_mul_of_nonneg_left (by omega) (by omega)
  have : (x : Int) * x ≤ n := by omega
  exact_mod_cast this
set_option maxHeartbeats 800000 in
theorem root_any (n : Nat) (w : World) (hn : n < 9223372036854775808) :
  Calls Tryz.prog 73 #[.int .i64 n] w fun e w' => e = .returned (.int .i64 (rootN n)) ∧ w = w' := by
 have hr := rootN_is n (by omega)
 by_cases h2 : n < 2
 ·have hd : decide ((n : Int) < 2) = true := by simp; omega
  go_enter Tryz.func73, Tryz.ntmps73
  go_wp2_with fail
  go_ret
  refine ⟨ret_int ?_, rfl⟩
  have : n = 0 ∨ n = 1 := by omega
  rcases this with rfl | rfl <;> rfl
 have hd : decide ((n : Int) < 2) = false := by simp; omega
 have hwn : ((n : Int) % 18446744073709551616) = n := by omega
 go_enter Tryz.func73, Tryz.ntmps73
 go_wp2_with fail
 refine (bits_len (n : Int) _ (by omega) (by omega)).mono ?_
 rintro e w1 ⟨L, rfl, h63, hx, rfl⟩
 obtain ⟨h32, hst⟩ := root_start h63 (show n < 2 ^ L by simpa using hx)
 have hp1 : (2 : Int) ^ ((L + 1) / 2) = ((2 ^ ((L + 1) / 2) : Nat) : Int) := by simp
 obtain ⟨p, hp⟩ : ∃ p : Nat, p = 2 ^ ((L + 1) / 2) := ⟨_, rfl⟩
 have hp2 : p ≤ 4294967296 := by rw [hp]; exact Nat.pow_le_pow_right (show 0 < 2 by omega) h32
 have hp0 : 0 < p := by rw [hp]; exact Nat.pow_pos (by omega)
 have hp3 : wrap64 (2 ^ ((L + 1) / 2)) = (p : Int) := by rw [hp1, ← hp]; unfold wrap64; omega
 rw [← hp] at hst
 clear hx
 clear hp1 hp
 go_wp2_with fail
 rw [hp3]
 go_loop [3] (fun x => ∃ x' : Nat, x = .int .i64 x' ∧ 0 < x' ∧ x' ≤ 4294967296 ∧ n < (x' + 1) * (x' + 1)) (fun x => (intOf x).toNat)
 case atStart => exact ⟨p, rfl, hp0, hp2, Nat.lt_of_lt_of_le hst (Nat.mul_le_mul (by omega) (by omega))⟩
 case round =>
  obtain ⟨x, rfl, hx0, hx1, hx2⟩ := hrel
  obtain ⟨hq0, hq1, y, hy, hy0, hy1, hy2, hy3⟩ := newton_step x n (by omega) hx0 hx1 hx2
  have hnz : ((x : Int) == 0) = false := by simp; omega
  by_cases hge : x ≤ y
  ·have hdg : decide ((x : Int) ≤ y) = true := by simp; omega
   go_wp2_with fail
   go_ret
   exact ⟨ret_int (by rw [root_one hr.1 hr.2 (hy3 hge) hx2]), rfl⟩
  ·have hdg : decide ((x : Int) ≤ y) = false := by simp; omega
   go_wp2_with fail
   exact ⟨⟨y, by rw [hy], hy0, by omega, hy2⟩, by simp only [intOf]; omega⟩
def sqN (p q : Spot) : Nat := ((q.1 - p.1) * (q.1 - p.1) + (q.2 - p.2) * (q.2 - p.2)).toNat
def seg (p q : Spot) : Nat := rootN (1000000 * sqN p q)
def inB (s : Spot) : Prop := -1048576 ≤ s.1 ∧ s.1 ≤ 1048576 ∧ -1048576 ≤ s.2 ∧ s.2 ≤ 1048576
theorem sq_bound {d : Int} (h0 : -2097152 ≤ d) (h1 : d ≤ 2097152) : 0 ≤ d * d ∧ d * d ≤ 4398046511104 := by
 rcases Int.le_total 0 d with h | h
 ·exact ⟨Int.mul_nonneg h h, Int.mul_le_mul h1 h1 h (by omega)⟩
 ·have a := Int.mul_nonneg (show 0 ≤ -d by omega) (show 0 ≤ -d by omega)
  have b := Int.mul_le_mul (show -d ≤ 2097152 by omega) (show -d ≤ 2097152 by omega) (show 0 ≤ -d by omega) (by omega)
  rw [Int.neg_mul_neg] at a b
  exact ⟨a, b⟩
theorem root_int (n : Int) (w : World) (h0 : 0 ≤ n) (h1 : n < 9223372036854775808) :
  Calls Tryz.prog 73 #[.int .i64 n] w fun e w' => e = .returned (.int .i64 (rootN n.toNat)) ∧ w = w' := by
 have h := root_any n.toNat w (by omega)
 rwa [Int.toNat_of_nonneg h0] at h
set_option maxHeartbeats 800000 in
theorem segment_any (p q : Spot) (w : World) (hp : inB p) (hq : inB q) :
  Calls Tryz.prog 44 #[SV p, SV q] w fun e w' => e = .returned (.int .i64 (seg p q)) ∧ Ext w w' := by
 obtain ⟨px, py⟩ := p; obtain ⟨qx, qy⟩ := q
 obtain ⟨p1, p2, p3, p4⟩ := hp; obtain ⟨q1, q2, q3, q4⟩ := hq
 have hs : ((sqN (px, py) (qx, qy) : Nat) : Int) = (qx - px) * (qx - px) + (qy - py) * (qy - py) := by
  have h1 := (sq_bound (d := qx - px) (by omega) (by omega)).1
  have h2 := (sq_bound (d := qy - py) (by omega) (by omega)).1
  unfold sqN; exact Int.toNat_of_nonneg (by simp only; omega)
 have h1 := sq_bound (d := qx - px) (by omega) (by omega)
 have h2 := sq_bound (d := qy - py) (by omega) (by omega)
 simp only at p1 p2 p3 p4 q1 q2 q3 q4
 go_enter Tryz.func44, Tryz.ntmps44
 go_wp2_with fail
 go_quiet (fail)
 go_wp2_with fail
 refine (root_int _ _ (by omega) (by omega)).mono ?_
 rintro e w1 ⟨rfl, rfl⟩
 go_wp2_with fail
 go_ret
 refine ⟨ret_int ?_, (((Ext.refl _).alloc _).alloc _).drewN _⟩
 unfold seg
 congr 2
 omega
def lenTo (l : List Spot) : Nat → Nat
 |0 => 0
 |k + 1 => lenTo l k + seg (gS l k) (gS l (k + 1))
def lengthN (l : List Spot) : Nat := if lcheck l ≠ 0 then 0 else lenTo l (l.length - 1)
theorem rootN_le (n : Nat) (h : n < 9223372036854775808) : rootN n ≤ 4294967296 := by
 have h1 := (rootN_is n (by omega)).1
 rcases Nat.lt_or_ge 4294967296 (rootN n) with h2 | h2
 ·have := Nat.mul_le_mul h2 h2; omega
 ·exact h2
theorem sqN_le {p q : Spot} (hp : inB p) (hq : inB q) : sqN p q ≤ 8796093022208 := by
 obtain ⟨p1, p2, p3, p4⟩ := hp; obtain ⟨q1, q2, q3, q4⟩ := hq
 have h1 := sq_bound (d := q.1 - p.1) (by omega) (by omega)
 have h2 := sq_bound (d := q.2 - p.2) (by omega) (by omega)
 unfold sqN; omega
theorem seg_le {p q : Spot} (hp : inB p) (hq : inB q) : seg p q ≤ 4294967296 := rootN_le _ (by have := sqN_le hp hq; omega)
theorem lenTo_le {l : List Spot} (h : ∀ k, k < l.length → inB (gS l k)) : ∀ k, k ≤ l.length - 1 → lenTo l k ≤ k * 4294967296
 |0, _ => by simp [lenTo]
 |k + 1, hk => by
  have := lenTo_le h k (by omega)
  have := seg_le (h k (by omega)) (h (k + 1) (by omega))
  simp only [lenTo]; omega
theorem lcheck_zero {l : List Spot} (h : lcheck l = 0) : 2 ≤ l.length ∧ l.length ≤ 40 ∧ ∀ k, k < l.length → inB (gS l k) := by
 unfold lcheck at h
 split at h
 ·cases h
 split at h
 ·cases h
 split at h
 ·cases h
 ·rename_i h1 h2 h3
  refine ⟨by omega, by omega, fun k hk => ?_⟩
  rw [gS_eq hk]
  have h4 : outB l[k] = false := by
   cases h5 : outB l[k]
   ·rfl
   ·exact absurd (List.any_eq_true.2 ⟨_, List.getElem_mem hk, h5⟩) h3
  unfold outB at h4
  simp at h4
  unfold inB
  omega
set_option maxHeartbeats 800000 in
theorem length_any (A : Option Addr) (n c : Nat) (l : List Spot) (w : World) (ha : SpotsAt w A l) (hl : l.length = n) :
  Calls Tryz.prog 17 #[.slice A n c] w fun e w' => e = .returned (.tuple #[.int .i64 (lengthN l), .int .i64 (lcheck l)]) ∧ Ext w w' := by
 have HL := Lib.hid hl; clear hl
 have HA := Lib.hid ha; clear ha
 go_enter Tryz.func17, Tryz.ntmps17
 go_wp2_with fail
 refine (lcheck_any A n c l w HA.out HL.out).mono ?_
 rintro e w1 ⟨rfl, hx⟩
 by_cases hz : lcheck l = 0
 ·obtain ⟨h2, h40, hin⟩ := lcheck_zero hz
  rw [HL.out] at h2 h40
  have HIN := Lib.hid hin; clear hin
  have HZ := Lib.hid hz
  rw [hz]
  clear hz
  go_wp2_with fail
  go_loopw [5, 15] (fun s i wr => ∃ k : Nat, k ≤ n - 1 ∧ i = .int .i64 k ∧ s = .int .i64 (lenTo l k) ∧ Ext w wr) (fun _ i _ => n - (intOf i).toNat)
  case atStart => exact ⟨0, Nat.zero_le _, rfl, rfl, hx⟩
  case round =>
   clear hx
   obtain ⟨k, hk, rfl, rfl, hx⟩ := hrel
   by_cases hlt : k < n - 1
   ·have hlt' : (k : Int) < (n : Int) - 1 := by omega
    have hb := lenTo_le HIN.out k (by rw [HL.out]; omega)
    have hg := seg_le (HIN.out k (by rw [HL.out]; omega)) (HIN.out (k + 1) (by rw [HL.out]; omega))
    have hg1 := HIN.out k (by rw [HL.out]; omega)
    have hg2 := HIN.out (k + 1) (by rw [HL.out]; omega)
    have hgh := Lib.hid hg1; have hgi := Lib.hid hg2; clear hg1 hg2
    obtain ⟨b, off, rfl, hc0, hc1⟩ := (HA.out.ext hx).g (k := k) (by rw [HL.out]; omega)
    obtain ⟨hd0, hd1⟩ := (HA.out.ext hx).at1 (k := k + 1) (by rw [HL.out]; omega)
    have hs1 : IntKind.i64.wrap ((k : Int) + 1) = k + 1 := IntWalk.i64_in _ (by omega)
    have hs2 : ((k : Int) + 1).toNat = k + 1 := by omega
    have hs3 : (k : Int) + 1 < n := by omega
    have hs4 : 0 ≤ (k : Int) + 1 := by omega
    have hs5 : IntKind.i64.wrap ((lenTo l k : Int) + seg (gS l k) (gS l (k + 1))) = (lenTo l k : Int) + seg (gS l k) (gS l (k + 1)) := IntWalk.i64_in _ (by omega)
    go_wp2_with fail
    have d0 := fun z : After wr => After.cell hc0 z
    have d1 := fun z : After wr => After.cell hc1 z
    have d2 := fun z : After wr => After.cell hd0 z
    have d3 := fun z : After wr => After.cell hd1 z
    refine region_ext (by kernel_rfl) (by kernel_rfl) ?_
    repeat (go_big_quiet_step (
     (go_at_call 44; exact after_call (segment_any (gS l k) (gS l (k + 1)) _ hgh.out hgi.out))))
    refine wpQuiet_nil ?_
    rintro w1 ⟨⟨_, he⟩, rfl⟩
    clear hs1 hs2 hs4
    go_wp2_with fail
    go_roundw
    case rel => exact ⟨k + 1, by omega, by go_num, by simp [lenTo], hx.trans he⟩
    case measure => simp [intOf]; omega
   ·obtain rfl : k = n - 1 := by omega
    have hlt' : ¬ ((n - 1 : Nat) : Int) < (n : Int) - 1 := by omega
    go_wp2_with fail
    go_ret2
    exact ⟨by unfold lengthN; rw [HZ.out, if_neg (by simp), HL.out]; rfl, hx⟩
 ·have hd : (lcheck l == 0) = false := by simp [hz]
  have HZ := Lib.hid hz; clear hz
  go_wp2_with fail
  go_ret2
  exact ⟨by unfold lengthN; rw [if_pos HZ.out]; rfl, hx⟩
end Go.Proofs.YtfegbaokcbjllaaGreat
