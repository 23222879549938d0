/- seam.Partner -/
import Derived.Test.YtilkgocpkhionaaKDiv64
/- plain: the partner of a place; no program in sight -/
namespace Go.Proofs.Ytilkgocpkhionaa
def partQ (a t f : Nat) : Nat := (2 * (a * t) + f) / (2 * f)
theorem part_code {a t f : Nat} (hf : 1 ≤ f) : a * t / f + (if f ≤ 2 * (a * t % f) then 1 else 0) = partQ a t f := by
  unfold partQ
  have e := Nat.div_add_mod (a * t) f
  have hm := Nat.mod_lt (a * t) (show f > 0 by omega)
  generalize a * t = X at *
  generalize X / f = q at *
  generalize X % f = r at *
  have e2 : 2 * X + f = (2 * r + f) + 2 * f * q := by rw [← e, Nat.mul_add, Nat.mul_assoc]; omega
  rw [e2, Nat.add_mul_div_left _ _ (by omega)]
  split
  · rename_i h
    have : (2 * r + f) / (2 * f) = 1 := by rw [Nat.div_eq_iff (by omega)]; omega
    omega
  · rename_i h
    have : (2 * r + f) / (2 * f) = 0 := Nat.div_eq_of_lt (by omega)
    omega
theorem part_zero {t f : Nat} (hf : 1 ≤ f) : partQ 0 t f = 0 := by
  unfold partQ; rw [Nat.zero_mul]; exact Nat.div_eq_of_lt (by omega)
theorem part_full {t f : Nat} (hf : 1 ≤ f) : partQ f t f = t := by
  rw [← part_code hf, Nat.mul_mod_right, Nat.mul_div_cancel_left _ (by omega), if_neg (by omega)]; rfl
theorem part_mono {a b t f : Nat} (h : a ≤ b) : partQ a t f ≤ partQ b t f := by
  unfold partQ
  exact Nat.div_le_div_right (by have := Nat.mul_le_mul_right t h; omega)
theorem part_le {a t f : Nat} (hf : 1 ≤ f) (h : a ≤ f) : partQ a t f ≤ t := by
  have := part_mono (t := t) (f := f) h
  rwa [part_full hf] at this
theorem part_near {a t f : Nat} (hf : 1 ≤ f) : 2 * (partQ a t f * f) ≤ 2 * (a * t) + f ∧ 2 * (a * t) < 2 * (partQ a t f * f) + f := by
  unfold partQ
  have e := Nat.div_add_mod (2 * (a * t) + f) (2 * f)
  have hm := Nat.mod_lt (2 * (a * t) + f) (show 2 * f > 0 by omega)
  rw [Nat.mul_assoc, Nat.mul_comm f] at e
  generalize (2 * (a * t) + f) / (2 * f) * f = z at *
  generalize (2 * (a * t) + f) % (2 * f) = y at *
  omega
/- the digits -/
structure Digs (a rest c k q l : Nat) : Prop where
  sum : q * c + l = a / 2 ^ k * rest
  lt : l < c
theorem digs_start {a rest c : Nat} (ha : a < 2199023255552) (hc : 1 ≤ c) : Digs a rest c 41 0 0 := by
  refine ⟨?_, by omega⟩
  rw [show a / 2 ^ 41 = 0 from Nat.div_eq_of_lt (by omega)]; simp
theorem digs_on {a rest c k q l b : Nat} (h : Digs a rest c (k + 1) q l) (hc : 1 ≤ c) (hb : b = a / 2 ^ k % 2) : Digs a rest c k (2 * q + (2 * l + b * rest) / c) ((2 * l + b * rest) % c) := by
  refine ⟨?_, Nat.mod_lt _ (by omega)⟩
  have e := Nat.div_add_mod (2 * l + b * rest) c
  have e1 : a / 2 ^ k = 2 * (a / 2 ^ (k + 1)) + b := by
    rw [Nat.pow_succ, ← Nat.div_div_eq_div_mul, hb]; omega
  have hs := h.sum
  have h1 : (2 * q + (2 * l + b * rest) / c) * c = 2 * (q * c) + (2 * l + b * rest) / c * c := by rw [Nat.add_mul, Nat.mul_assoc]
  have h2 : (2 * (a / 2 ^ (k + 1)) + b) * rest = 2 * (a / 2 ^ (k + 1) * rest) + b * rest := by rw [Nat.add_mul, Nat.mul_assoc]
  rw [h1, e1, h2, ← hs]
  rw [Nat.mul_comm c] at e
  generalize (2 * l + b * rest) / c * c = z at *
  generalize (2 * l + b * rest) % c = y at *
  omega
theorem digs_end {a b c q l : Nat} (h : Digs a (b % c) c 0 q l) (hc : 1 ≤ c) : a * (b / c) + (q + if c ≤ 2 * l then 1 else 0) = partQ a b c := by
  rw [← part_code hc]
  have hs := h.sum
  rw [Nat.pow_zero, Nat.div_one] at hs
  have hl := h.lt
  have e := Nat.div_add_mod b c
  have e2 : a * b = l + c * (q + a * (b / c)) := by
    have : a * b = a * (c * (b / c) + b % c) := by rw [e]
    rw [this, Nat.mul_add, ← hs, Nat.mul_add, Nat.mul_comm c q, Nat.mul_left_comm]
    omega
  rw [e2, Nat.add_mul_div_left _ _ (by omega), Nat.add_mul_mod_self_left, Nat.div_eq_of_lt hl, Nat.mod_eq_of_lt hl]
  omega
end Go.Proofs.Ytilkgocpkhionaa
namespace Go.Proofs.Ytilkgocpkhionaa
open Go.RowKit
def prtB (f t a : Int) : Bool := decide (1 ≤ f ∧ f ≤ 1099511627776 ∧ 0 ≤ t ∧ t ≤ 1099511627776 ∧ 0 ≤ a ∧ a ≤ f)
def partN (f t : Int) (r : Bool) (a : Int) : Int := if r = true then t - (partQ a.toNat t.toNat f.toNat : Int) else (partQ a.toNat t.toNat f.toNat : Int)
def partV (f t : Int) (r : Bool) (a : Int) : Int := if prtB f t a = true then partN f t r a else 0
def partE (f t a : Int) : Int := if prtB f t a = true then 0 else 3
def RetPt (w : World) (f t : Int) (r : Bool) (a : Int) (e : Ending) (w' : World) : Prop := e = .returned (.tuple #[.int .i64 (partV f t r a), .int .i64 (partE f t a)]) ∧ Ext w w'
theorem retPt_bad {w : World} {f t a : Int} {r : Bool} (h : ¬ (1 ≤ f ∧ f ≤ 1099511627776 ∧ 0 ≤ t ∧ t ≤ 1099511627776 ∧ 0 ≤ a ∧ a ≤ f)) : RetPt w f t r a (.returned (.tuple #[.int .i64 0, .int .i64 3])) w := by
  have hb : prtB f t a = false := decide_eq_false h
  refine ⟨?_, Ext.refl _⟩
  unfold partV partE
  rw [hb]; rfl
theorem retPt_ok {w w' : World} {f t a : Int} {r : Bool} {x : Int} (h : 1 ≤ f ∧ f ≤ 1099511627776 ∧ 0 ≤ t ∧ t ≤ 1099511627776 ∧ 0 ≤ a ∧ a ≤ f) (hx : x = partN f t r a) (he : Ext w w') : RetPt w f t r a (.returned (.tuple #[.int .i64 x, .int .i64 0])) w' := by
  have hb : prtB f t a = true := decide_eq_true h
  refine ⟨?_, he⟩
  unfold partV partE
  rw [hb, if_pos rfl, if_pos rfl, hx]
set_option maxRecDepth 100000 in
set_option maxHeartbeats 1600000 in
theorem partner_any (f t a : Int) (r : Bool) (w : World) :
    Calls Try.prog 10 #[.int .i64 f, .int .i64 t, .bool r, .int .i64 a] w (RetPt w f t r a) := by
  by_cases h1 : f < 1
  · go_enter Try.func10, Try.ntmps10
    go_wp2_with fail
    go_ret2
    exact retPt_bad (by omega)
  by_cases h2 : 1099511627776 < f
  · go_enter Try.func10, Try.ntmps10
    go_wp2_with fail
    go_ret2
    exact retPt_bad (by omega)
  by_cases h3 : t < 0
  · go_enter Try.func10, Try.ntmps10
    go_wp2_with fail
    go_ret2
    exact retPt_bad (by omega)
  by_cases h4 : 1099511627776 < t
  · go_enter Try.func10, Try.ntmps10
    go_wp2_with fail
    go_ret2
    exact retPt_bad (by omega)
  by_cases h5 : a < 0
  · go_enter Try.func10, Try.ntmps10
    go_wp2_with fail
    go_ret2
    exact retPt_bad (by omega)
  by_cases h6 : f < a
  · go_enter Try.func10, Try.ntmps10
    go_wp2_with fail
    go_ret2
    exact retPt_bad (by omega)
  obtain ⟨F, rfl⟩ := Int.eq_ofNat_of_zero_le (show 0 ≤ f by omega)
  obtain ⟨T, rfl⟩ := Int.eq_ofNat_of_zero_le (show 0 ≤ t by omega)
  obtain ⟨X, rfl⟩ := Int.eq_ofNat_of_zero_le (show 0 ≤ a by omega)
  have HOK : Hid (1 ≤ (F : Int) ∧ (F : Int) ≤ 1099511627776 ∧ 0 ≤ (T : Int) ∧ (T : Int) ≤ 1099511627776 ∧ 0 ≤ (X : Int) ∧ (X : Int) ≤ (F : Int)) := ⟨by omega, by omega, by omega, by omega, by omega, by omega⟩
  have hF1 : 1 ≤ F := by omega
  have hF2 : F ≤ 1099511627776 := by omega
  have hT2 : T ≤ 1099511627776 := by omega
  have hX2 : X ≤ F := by omega
  have ux : IntKind.u64.wrap (X : Int) = (X : Int) := u64_wrap X (by omega)
  have ut : IntKind.u64.wrap (T : Int) = (T : Int) := u64_wrap T (by omega)
  have uf : IntKind.u64.wrap (F : Int) = (F : Int) := u64_wrap F (by omega)
  have hle : X * T ≤ F * 1099511627776 := Nat.mul_le_mul hX2 hT2
  have hhi : X * T / 18446744073709551616 < F := by
    rw [Nat.div_lt_iff_lt_mul (by omega)]
    have : F * 1099511627776 < F * 18446744073709551616 := Nat.mul_lt_mul_of_pos_left (by omega) (by omega)
    omega
  go_enter Try.func10, Try.ntmps10
  go_wp2_with fail
  refine (mul64_any X T (by omega) (by omega) _).mono ?_
  rintro e w1 ⟨rfl, rfl⟩
  obtain ⟨HI, hHI⟩ : ∃ HI, HI = X * T / 18446744073709551616 := ⟨_, rfl⟩
  obtain ⟨LO, hLO⟩ : ∃ LO, LO = X * T % 18446744073709551616 := ⟨_, rfl⟩
  rw [← hHI, ← hLO]
  rw [← hHI] at hhi
  have hlo : LO < 18446744073709551616 := by rw [hLO]; exact Nat.mod_lt _ (by omega)
  have HSUM : Hid (HI * 18446744073709551616 + LO = X * T) := by
    show _ = _
    rw [hHI, hLO, Nat.mul_comm]; exact Nat.div_add_mod _ _
  clear hHI hLO ux ut
  go_wp2_with fail
  refine (div64_any HI LO F _ hlo hhi (by omega)).mono ?_
  rintro e w2 ⟨rfl, he2⟩
  rw [HSUM.out]
  have HXX := Lib.hid he2
  have hle2 : partQ X T F ≤ T := part_le hF1 hX2
  have hcode := part_code (a := X) (t := T) (f := F) hF1
  obtain ⟨Q, hQ⟩ : ∃ Q, Q = X * T / F := ⟨_, rfl⟩
  obtain ⟨R, hR⟩ : ∃ R, R = X * T % F := ⟨_, rfl⟩
  have hRl : R < F := by rw [hR]; exact Nat.mod_lt _ (by omega)
  rw [← hQ, ← hR] at hcode ⊢
  obtain ⟨N, hN⟩ : ∃ N, N = partQ X T F := ⟨_, rfl⟩
  rw [← hN] at hle2 hcode
  have HN : Hid (∀ r, partN (F : Int) (T : Int) r (X : Int) = if r = true then (T : Int) - (N : Int) else (N : Int)) := fun r => by unfold partN; rw [hN]; simp
  have u2 : IntKind.u64.wrap (2 * (R : Int)) = 2 * (R : Int) := by rw [IntKind.wrap_u64]; omega
  have u3 : IntKind.u64.wrap ((Q : Int) + 1) = (Q : Int) + 1 := by rw [IntKind.wrap_u64]; split at hcode <;> omega
  have u4 : IntKind.i64.wrap ((Q : Int) + 1) = (Q : Int) + 1 := IntWalk.i64_in _ (by split at hcode <;> omega)
  have u5 : IntKind.i64.wrap (Q : Int) = (Q : Int) := IntWalk.i64_in _ (by split at hcode <;> omega)
  clear he2 hQ hR hN hle hlo hhi HSUM
  by_cases hc : F ≤ 2 * R
  · rw [if_pos hc] at hcode
    have hci : (F : Int) ≤ 2 * (R : Int) := by omega
    cases r
    · go_wp2_with fail
      go_ret2
      exact retPt_ok HOK.out (by rw [HN.out]; simp; omega) HXX.out
    · go_wp2_with fail
      go_ret2
      exact retPt_ok HOK.out (by rw [HN.out]; simp; omega) HXX.out
  · rw [if_neg hc] at hcode
    have hci : ¬ (F : Int) ≤ 2 * (R : Int) := by omega
    cases r
    · go_wp2_with fail
      go_ret2
      exact retPt_ok HOK.out (by rw [HN.out]; simp; omega) HXX.out
    · go_wp2_with fail
      go_ret2
      exact retPt_ok HOK.out (by rw [HN.out]; simp; omega) HXX.out
end Go.Proofs.Ytilkgocpkhionaa
