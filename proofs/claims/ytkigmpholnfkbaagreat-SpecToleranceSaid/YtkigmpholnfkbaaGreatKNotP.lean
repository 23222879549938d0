/- plain: notches: places, points, counterparts. No program in sight. -/
import Derived.Test.YtkigmpholnfkbaaGreatKDiv64
import Derived.Test.YtkigmpholnfkbaaGreatKSty
import Derived.Test.YtkigmpholnfkbaaGreatKAlongP
/- plain: the partner of a place; no program in sight -/
namespace Go.Proofs.YtkigmpholnfkbaaGreat
def partQ (a t f : Nat) : Nat := (2 * (a * t) + f) / (2 * f)
theorem part_code {a t f : Nat} (hf : 1 ≤ f) : a * t / f + (if f ≤ 2 * (a * t % f) then 1 else 0) = partQ a t f := by
  unfold partQ
  have e := Nat.div_add_mod (a * t) f
  have hm := Nat.mod_lt (a * t) (show f > 0 by omega)
  generalize a * t = X at *
  generalize X / f = q at *
  generalize X % f = r at *
  have e2 : 2 * X + f = (2 * r + f) + 2 * f * q := by rw [← e, Nat.mul_add, Nat.mul_assoc]; omega
  rw [e2, Nat.add_mul_div_left _ _ (by omega)]
  split
  · rename_i h
    have : (2 * r + f) / (2 * f) = 1 := by rw [Nat.div_eq_iff (by omega)]; omega
    omega
  · rename_i h
    have : (2 * r + f) / (2 * f) = 0 := Nat.div_eq_of_lt (by omega)
    omega
theorem part_zero {t f : Nat} (hf : 1 ≤ f) : partQ 0 t f = 0 := by
  unfold partQ; rw [Nat.zero_mul]; exact Nat.div_eq_of_lt (by omega)
theorem part_full {t f : Nat} (hf : 1 ≤ f) : partQ f t f = t := by
  rw [← part_code hf, Nat.mul_mod_right, Nat.mul_div_cancel_left _ (by omega), if_neg (by omega)]; rfl
theorem part_mono {a b t f : Nat} (h : a ≤ b) : partQ a t f ≤ partQ b t f := by
  unfold partQ
  exact Nat.div_le_div_right (by have := Nat.mul_le_mul_right t h; omega)
theorem part_le {a t f : Nat} (hf : 1 ≤ f) (h : a ≤ f) : partQ a t f ≤ t := by
  have := part_mono (t := t) (f := f) h
  rwa [part_full hf] at this
theorem part_near {a t f : Nat} (hf : 1 ≤ f) : 2 * (partQ a t f * f) ≤ 2 * (a * t) + f ∧ 2 * (a * t) < 2 * (partQ a t f * f) + f := by
  unfold partQ
  have e := Nat.div_add_mod (2 * (a * t) + f) (2 * f)
  have hm := Nat.mod_lt (2 * (a * t) + f) (show 2 * f > 0 by omega)
  rw [Nat.mul_assoc, Nat.mul_comm f] at e
  generalize (2 * (a * t) + f) / (2 * f) * f = z at *
  generalize (2 * (a * t) + f) % (2 * f) = y at *
  omega
/- the digits -/
structure Digs (a rest c k q l : Nat) : Prop where
  sum : q * c + l = a / 2 ^ k * rest
  lt : l < c
theorem digs_start {a rest c : Nat} (ha : a < 2199023255552) (hc : 1 ≤ c) : Digs a rest c 41 0 0 := by
  refine ⟨?_, by omega⟩
  rw [show a / 2 ^ 41 = 0 from Nat.div_eq_of_lt (by omega)]; simp
theorem digs_on {a rest c k q l b : Nat} (h : Digs a rest c (k + 1) q l) (hc : 1 ≤ c) (hb : b = a / 2 ^ k % 2) : Digs a rest c k (2 * q + (2 * l + b * rest) / c) ((2 * l + b * rest) % c) := by
  refine ⟨?_, Nat.mod_lt _ (by omega)⟩
  have e := Nat.div_add_mod (2 * l + b * rest) c
  have e1 : a / 2 ^ k = 2 * (a / 2 ^ (k + 1)) + b := by
    rw [Nat.pow_succ, ← Nat.div_div_eq_div_mul, hb]; omega
  have hs := h.sum
  have h1 : (2 * q + (2 * l + b * rest) / c) * c = 2 * (q * c) + (2 * l + b * rest) / c * c := by rw [Nat.add_mul, Nat.mul_assoc]
  have h2 : (2 * (a / 2 ^ (k + 1)) + b) * rest = 2 * (a / 2 ^ (k + 1) * rest) + b * rest := by rw [Nat.add_mul, Nat.mul_assoc]
  rw [h1, e1, h2, ← hs]
  rw [Nat.mul_comm c] at e
  generalize (2 * l + b * rest) / c * c = z at *
  generalize (2 * l + b * rest) % c = y at *
  omega
theorem digs_end {a b c q l : Nat} (h : Digs a (b % c) c 0 q l) (hc : 1 ≤ c) : a * (b / c) + (q + if c ≤ 2 * l then 1 else 0) = partQ a b c := by
  rw [← part_code hc]
  have hs := h.sum
  rw [Nat.pow_zero, Nat.div_one] at hs
  have hl := h.lt
  have e := Nat.div_add_mod b c
  have e2 : a * b = l + c * (q + a * (b / c)) := by
    have : a * b = a * (c * (b / c) + b % c) := by rw [e]
    rw [this, Nat.mul_add, ← hs, Nat.mul_add, Nat.mul_comm c q, Nat.mul_left_comm]
    omega
  rw [e2, Nat.add_mul_div_left _ _ (by omega), Nat.add_mul_mod_self_left, Nat.div_eq_of_lt hl, Nat.mod_eq_of_lt hl]
  omega
end Go.Proofs.YtkigmpholnfkbaaGreat
/- seam.Partner -/
namespace Go.Proofs.YtkigmpholnfkbaaGreat
open Go.RowKit
def prtB (f t a : Int) : Bool := decide (1 ≤ f ∧ f ≤ 1099511627776 ∧ 0 ≤ t ∧ t ≤ 1099511627776 ∧ 0 ≤ a ∧ a ≤ f)
def partN (f t : Int) (r : Bool) (a : Int) : Int := if r = true then t - (partQ a.toNat t.toNat f.toNat : Int) else (partQ a.toNat t.toNat f.toNat : Int)
def partV (f t : Int) (r : Bool) (a : Int) : Int := if prtB f t a = true then partN f t r a else 0
def partE (f t a : Int) : Int := if prtB f t a = true then 0 else 3
def RetPt (w : World) (f t : Int) (r : Bool) (a : Int) (e : Ending) (w' : World) : Prop := e = .returned (.tuple #[.int .i64 (partV f t r a), .int .i64 (partE f t a)]) ∧ Ext w w'
theorem retPt_bad {w : World} {f t a : Int} {r : Bool} (h : ¬ (1 ≤ f ∧ f ≤ 1099511627776 ∧ 0 ≤ t ∧ t ≤ 1099511627776 ∧ 0 ≤ a ∧ a ≤ f)) : RetPt w f t r a (.returned (.tuple #[.int .i64 0, .int .i64 3])) w := by
  have hb : prtB f t a = false := decide_eq_false h
  refine ⟨?_, Ext.refl _⟩
  unfold partV partE
  rw [hb]; rfl
theorem retPt_ok {w w' : World} {f t a : Int} {r : Bool} {x : Int} (h : 1 ≤ f ∧ f ≤ 1099511627776 ∧ 0 ≤ t ∧ t ≤ 1099511627776 ∧ 0 ≤ a ∧ a ≤ f) (hx : x = partN f t r a) (he : Ext w w') : RetPt w f t r a (.returned (.tuple #[.int .i64 x, .int .i64 0])) w' := by
  have hb : prtB f t a = true := decide_eq_true h
  refine ⟨?_, he⟩
  unfold partV partE
  rw [hb, if_pos rfl, if_pos rfl, hx]
set_option maxRecDepth 100000 in
set_option maxHeartbeats 1600000 in
theorem partner_any (f t a : Int) (r : Bool) (w : World) :
    Calls Tryz.prog 108 #[.int .i64 f, .int .i64 t, .bool r, .int .i64 a] w (RetPt w f t r a) := by
  by_cases h1 : f < 1
  · go_enter Tryz.func108, Tryz.ntmps108
    go_wp2_with fail
    go_ret2
    exact retPt_bad (by omega)
  by_cases h2 : 1099511627776 < f
  · go_enter Tryz.func108, Tryz.ntmps108
    go_wp2_with fail
    go_ret2
    exact retPt_bad (by omega)
  by_cases h3 : t < 0
  · go_enter Tryz.func108, Tryz.ntmps108
    go_wp2_with fail
    go_ret2
    exact retPt_bad (by omega)
  by_cases h4 : 1099511627776 < t
  · go_enter Tryz.func108, Tryz.ntmps108
    go_wp2_with fail
    go_ret2
    exact retPt_bad (by omega)
  by_cases h5 : a < 0
  · go_enter Tryz.func108, Tryz.ntmps108
    go_wp2_with fail
    go_ret2
    exact retPt_bad (by omega)
  by_cases h6 : f < a
  · go_enter Tryz.func108, Tryz.ntmps108
    go_wp2_with fail
    go_ret2
    exact retPt_bad (by omega)
  obtain ⟨F, rfl⟩ := Int.eq_ofNat_of_zero_le (show 0 ≤ f by omega)
  obtain ⟨T, rfl⟩ := Int.eq_ofNat_of_zero_le (show 0 ≤ t by omega)
  obtain ⟨X, rfl⟩ := Int.eq_ofNat_of_zero_le (show 0 ≤ a by omega)
  have HOK : Hid (1 ≤ (F : Int) ∧ (F : Int) ≤ 1099511627776 ∧ 0 ≤ (T : Int) ∧ (T : Int) ≤ 1099511627776 ∧ 0 ≤ (X : Int) ∧ (X : Int) ≤ (F : Int)) := ⟨by omega, by omega, by omega, by omega, by omega, by omega⟩
  have hF1 : 1 ≤ F := by omega
  have hF2 : F ≤ 1099511627776 := by omega
  have hT2 : T ≤ 1099511627776 := by omega
  have hX2 : X ≤ F := by omega
  have ux : IntKind.u64.wrap (X : Int) = (X : Int) := u64_wrap X (by omega)
  have ut : IntKind.u64.wrap (T : Int) = (T : Int) := u64_wrap T (by omega)
  have uf : IntKind.u64.wrap (F : Int) = (F : Int) := u64_wrap F (by omega)
  have hle : X * T ≤ F * 1099511627776 := Nat.mul_le_mul hX2 hT2
  have hhi : X * T / 18446744073709551616 < F := by
    rw [Nat.div_lt_iff_lt_mul (by omega)]
    have : F * 1099511627776 < F * 18446744073709551616 := Nat.mul_lt_mul_of_pos_left (by omega) (by omega)
    omega
  go_enter Tryz.func108, Tryz.ntmps108
  go_wp2_with fail
  refine (mul64_any X T (by omega) (by omega) _).mono ?_
  rintro e w1 ⟨rfl, rfl⟩
  obtain ⟨HI, hHI⟩ : ∃ HI, HI = X * T / 18446744073709551616 := ⟨_, rfl⟩
  obtain ⟨LO, hLO⟩ : ∃ LO, LO = X * T % 18446744073709551616 := ⟨_, rfl⟩
  rw [← hHI, ← hLO]
  rw [← hHI] at hhi
  have hlo : LO < 18446744073709551616 := by rw [hLO]; exact Nat.mod_lt _ (by omega)
  have HSUM : Hid (HI * 18446744073709551616 + LO = X * T) := by
    show _ = _
    rw [hHI, hLO, Nat.mul_comm]; exact Nat.div_add_mod _ _
  clear hHI hLO ux ut
  go_wp2_with fail
  refine (div64_any HI LO F _ hlo hhi (by omega)).mono ?_
  rintro e w2 ⟨rfl, he2⟩
  rw [HSUM.out]
  have HXX := Lib.hid he2
  have hle2 : partQ X T F ≤ T := part_le hF1 hX2
  have hcode := part_code (a := X) (t := T) (f := F) hF1
  obtain ⟨Q, hQ⟩ : ∃ Q, Q = X * T / F := ⟨_, rfl⟩
  obtain ⟨R, hR⟩ : ∃ R, R = X * T % F := ⟨_, rfl⟩
  have hRl : R < F := by rw [hR]; exact Nat.mod_lt _ (by omega)
  rw [← hQ, ← hR] at hcode ⊢
  obtain ⟨N, hN⟩ : ∃ N, N = partQ X T F := ⟨_, rfl⟩
  rw [← hN] at hle2 hcode
  have HN : Hid (∀ r, partN (F : Int) (T : Int) r (X : Int) = if r = true then (T : Int) - (N : Int) else (N : Int)) := fun r => by unfold partN; rw [hN]; simp
  have u2 : IntKind.u64.wrap (2 * (R : Int)) = 2 * (R : Int) := by rw [IntKind.wrap_u64]; omega
  have u3 : IntKind.u64.wrap ((Q : Int) + 1) = (Q : Int) + 1 := by rw [IntKind.wrap_u64]; split at hcode <;> omega
  have u4 : IntKind.i64.wrap ((Q : Int) + 1) = (Q : Int) + 1 := IntWalk.i64_in _ (by split at hcode <;> omega)
  have u5 : IntKind.i64.wrap (Q : Int) = (Q : Int) := IntWalk.i64_in _ (by split at hcode <;> omega)
  clear he2 hQ hR hN hle hlo hhi HSUM
  by_cases hc : F ≤ 2 * R
  · rw [if_pos hc] at hcode
    have hci : (F : Int) ≤ 2 * (R : Int) := by omega
    cases r
    · go_wp2_with fail
      go_ret2
      exact retPt_ok HOK.out (by rw [HN.out]; simp; omega) HXX.out
    · go_wp2_with fail
      go_ret2
      exact retPt_ok HOK.out (by rw [HN.out]; simp; omega) HXX.out
  · rw [if_neg hc] at hcode
    have hci : ¬ (F : Int) ≤ 2 * (R : Int) := by omega
    cases r
    · go_wp2_with fail
      go_ret2
      exact retPt_ok HOK.out (by rw [HN.out]; simp; omega) HXX.out
    · go_wp2_with fail
      go_ret2
      exact retPt_ok HOK.out (by rw [HN.out]; simp; omega) HXX.out
end Go.Proofs.YtkigmpholnfkbaaGreat
/- words: lines of a graded outline; what seam.Lengths answers. No program in sight. -/
namespace Go.Proofs.YtkigmpholnfkbaaGreat
open Go.RowKit
theorem graded_lines {es : List Edge} {cs : List Spot} {m : Int} (h : gradedR es cs m = 0) {k : Nat} (hk : k < es.length) : lcheck (gE (gradedE es cs m) k).2 = 0 :=
  ocheck_line ((gradedR_iff es cs m).1 h).ok' (by rw [gradedE_len]; exact hk)
/- what Lengths answers -/
theorem lens_1 {s : Sty} {z k : Int} (h : ¬ (sizeB s z = true ∧ 0 ≤ k ∧ k < s.ss.length)) : lensV s z k = (0, 0, 3) := by
  have e : lensE s z k = 3 := by unfold lensE; rw [if_pos h]
  unfold lensV; rw [e]; rfl
theorem lens_2 {s : Sty} {z k : Int} (h1 : sizeB s z = true ∧ 0 ≤ k ∧ k < s.ss.length) (h : ¬ (edgeB s (gSm s.ss k.toNat).pa (gSm s.ss k.toNat).ea = true ∧ edgeB s (gSm s.ss k.toNat).pb (gSm s.ss k.toNat).eb = true)) : lensV s z k = (0, 0, 3) := by
  have e : lensE s z k = 3 := by unfold lensE; rw [if_neg (fun hn => hn h1), if_pos h]
  unfold lensV; rw [e]; rfl
theorem lens_3 {s : Sty} {z k : Int} (h1 : sizeB s z = true ∧ 0 ≤ k ∧ k < s.ss.length) (h2 : edgeB s (gSm s.ss k.toNat).pa (gSm s.ss k.toNat).ea = true ∧ edgeB s (gSm s.ss k.toNat).pb (gSm s.ss k.toNat).eb = true)
    (h : gradedR (gPc s.ps (gSm s.ss k.toNat).pa.toNat).es (gPc s.ps (gSm s.ss k.toNat).pa.toNat).cs (gI s.ms z.toNat) ≠ 0) : lensV s z k = (0, 0, gradedR (gPc s.ps (gSm s.ss k.toNat).pa.toNat).es (gPc s.ps (gSm s.ss k.toNat).pa.toNat).cs (gI s.ms z.toNat)) := by
  have e := show lensE s z k = _ by unfold lensE; rw [if_neg (fun hn => hn h1), if_neg (fun hn => hn h2), if_pos h]
  unfold lensV; rw [e, if_pos h]
theorem lens_4 {s : Sty} {z k : Int} (h1 : sizeB s z = true ∧ 0 ≤ k ∧ k < s.ss.length) (h2 : edgeB s (gSm s.ss k.toNat).pa (gSm s.ss k.toNat).ea = true ∧ edgeB s (gSm s.ss k.toNat).pb (gSm s.ss k.toNat).eb = true)
    (h3 : gradedR (gPc s.ps (gSm s.ss k.toNat).pa.toNat).es (gPc s.ps (gSm s.ss k.toNat).pa.toNat).cs (gI s.ms z.toNat) = 0) (h : gradedR (gPc s.ps (gSm s.ss k.toNat).pb.toNat).es (gPc s.ps (gSm s.ss k.toNat).pb.toNat).cs (gI s.ms z.toNat) ≠ 0) : lensV s z k = (0, 0, gradedR (gPc s.ps (gSm s.ss k.toNat).pb.toNat).es (gPc s.ps (gSm s.ss k.toNat).pb.toNat).cs (gI s.ms z.toNat)) := by
  have e := show lensE s z k = _ by unfold lensE; rw [if_neg (fun hn => hn h1), if_neg (fun hn => hn h2), if_neg (fun hn => hn h3)]
  unfold lensV; rw [e, if_pos h]
theorem lens_5 {s : Sty} {z k : Int} (h1 : sizeB s z = true ∧ 0 ≤ k ∧ k < s.ss.length) (h2 : edgeB s (gSm s.ss k.toNat).pa (gSm s.ss k.toNat).ea = true ∧ edgeB s (gSm s.ss k.toNat).pb (gSm s.ss k.toNat).eb = true)
    (h3 : gradedR (gPc s.ps (gSm s.ss k.toNat).pa.toNat).es (gPc s.ps (gSm s.ss k.toNat).pa.toNat).cs (gI s.ms z.toNat) = 0) (h : gradedR (gPc s.ps (gSm s.ss k.toNat).pb.toNat).es (gPc s.ps (gSm s.ss k.toNat).pb.toNat).cs (gI s.ms z.toNat) = 0) : lensV s z k = (((lensA s z k : Nat) : Int), ((lensB s z k : Nat) : Int), 0) := by
  have e := show lensE s z k = _ by unfold lensE; rw [if_neg (fun hn => hn h1), if_neg (fun hn => hn h2), if_neg (fun hn => hn h3)]
  unfold lensV; rw [e, if_neg (fun hn => hn h)]
theorem edgeB_iff {s : Sty} {p e : Int} (h : edgeB s p e = true) : 0 ≤ p ∧ p < s.ps.length ∧ 0 ≤ e ∧ e < (gPc s.ps p.toNat).es.length := by
  unfold edgeB at h; exact of_decide_eq_true h
def LenV (x : Int × Int × Int) : Value := .tuple #[.int .i64 x.1, .int .i64 x.2.1, .int .i64 x.2.2]
end Go.Proofs.YtkigmpholnfkbaaGreat
/- plain: bounds of lengths; the gap of two lengths -/
namespace Go.Proofs.YtkigmpholnfkbaaGreat
open Go.RowKit
theorem lengthN_bd (l : List Spot) : lengthN l ≤ 1000000000000 := by
  unfold lengthN
  split
  · omega
  · rename_i h
    obtain ⟨h2, h40, hin⟩ := lcheck_zero (l := l) (by omega)
    have := lenTo_le hin (l.length - 1) (by omega)
    have : (l.length - 1) * 4294967296 ≤ 39 * 4294967296 := Nat.mul_le_mul (by omega) (by omega)
    omega
theorem lnN_bd (p : Pc) (m : Int) (e : Nat) : lnN p m e ≤ 1000000000000 := by
  unfold lnN
  split
  · omega
  · exact lengthN_bd _
theorem lensV_bd (s : Sty) (z k : Int) : 0 ≤ (lensV s z k).1 ∧ (lensV s z k).1 ≤ 1000000000000 ∧ 0 ≤ (lensV s z k).2.1 ∧ (lensV s z k).2.1 ≤ 1000000000000 := by
  unfold lensV
  split
  · simp only; omega
  · have := lnN_bd (gPc s.ps (gSm s.ss k.toNat).pa.toNat) (gI s.ms z.toNat) (gSm s.ss k.toNat).ea.toNat
    have := lnN_bd (gPc s.ps (gSm s.ss k.toNat).pb.toNat) (gI s.ms z.toNat) (gSm s.ss k.toNat).eb.toNat
    unfold lensA lensB
    simp only; omega
def gapN (a b : Int) : Int := if a - b < b - a then b - a else a - b
end Go.Proofs.YtkigmpholnfkbaaGreat
namespace Go.Proofs.YtkigmpholnfkbaaGreat
open Go.RowKit
def baseN (p : Pc) (k : Nat) : Nat := lengthN (gE p.es k).2
def grdN (p : Pc) (m : Int) (k : Nat) : Nat := lengthN (gE (gradedE p.es p.cs m) k).2
/- the error and the place of a notch -/
def ntE (p : Pc) (m : Int) (i : Nat) : Int := if (gS p.ns i).1 < 0 ∨ (p.es.length : Int) ≤ (gS p.ns i).1 then 3 else partE (baseN p (gS p.ns i).1.toNat) (grdN p m (gS p.ns i).1.toNat) (gS p.ns i).2
def plV (p : Pc) (m : Int) (i : Nat) : Int := partV (baseN p (gS p.ns i).1.toNat) (grdN p m (gS p.ns i).1.toNat) false (gS p.ns i).2
def plTo (p : Pc) (m : Int) (k : Nat) : List Int := (List.range k).map (plV p m)
def plL (p : Pc) (m : Int) : List Int := plTo p m p.ns.length
def plE (p : Pc) (m : Int) : Int := if gradedR p.es p.cs m ≠ 0 then gradedR p.es p.cs m else if 16 < p.ns.length then 5 else firstE (ntE p m) p.ns.length
theorem plTo_succ (p : Pc) (m : Int) (k : Nat) : plTo p m (k + 1) = plTo p m k ++ [plV p m k] := by unfold plTo; rw [List.range_succ, List.map_append]; rfl
theorem plTo_len (p : Pc) (m : Int) (k : Nat) : (plTo p m k).length = k := by simp [plTo]
theorem plL_len (p : Pc) (m : Int) : (plL p m).length = p.ns.length := plTo_len _ _ _
theorem plL_get {p : Pc} {m : Int} {i : Nat} (h : i < p.ns.length) : gI (plL p m) i = plV p m i := by
  rw [gI_eq (by rw [plL_len]; exact h)]; simp [plL, plTo]
/- when a notch has a place -/
structure NtOk (p : Pc) (m : Int) (i : Nat) : Prop where
  e0 : 0 ≤ (gS p.ns i).1
  e1 : (gS p.ns i).1 < p.es.length
  b1 : 1 ≤ baseN p (gS p.ns i).1.toNat
  a0 : 0 ≤ (gS p.ns i).2
  a1 : (gS p.ns i).2 ≤ baseN p (gS p.ns i).1.toNat
theorem prtB_iff {f t a : Int} : prtB f t a = true ↔ 1 ≤ f ∧ f ≤ 1099511627776 ∧ 0 ≤ t ∧ t ≤ 1099511627776 ∧ 0 ≤ a ∧ a ≤ f := by unfold prtB; exact decide_eq_true_iff
theorem partE_zero {f t a : Int} : partE f t a = 0 ↔ prtB f t a = true := by
  unfold partE
  split
  · rename_i h; simp [h]
  · rename_i h; simp [h]
theorem ntE_zero {p : Pc} {m : Int} {i : Nat} : ntE p m i = 0 ↔ NtOk p m i := by
  unfold ntE
  split
  · rename_i h
    constructor
    · intro h; cases h
    · intro h'; have := h'.e0; have := h'.e1; omega
  · rename_i h
    rw [partE_zero, prtB_iff]
    constructor
    · intro h'; exact ⟨by omega, by omega, by omega, by omega, by omega⟩
    · intro h'
      have h1 := lengthN_bd (gE p.es (gS p.ns i).1.toNat).2
      have h2 := lengthN_bd (gE (gradedE p.es p.cs m) (gS p.ns i).1.toNat).2
      have := h'.b1; have := h'.a0; have := h'.a1
      unfold baseN grdN at *
      omega
structure PlOk (p : Pc) (m : Int) : Prop where
  g : gradedR p.es p.cs m = 0
  n : p.ns.length ≤ 16
  i : ∀ i, i < p.ns.length → NtOk p m i
theorem plE_zero {p : Pc} {m : Int} : plE p m = 0 ↔ PlOk p m := by
  unfold plE
  constructor
  · intro h
    split at h
    · rename_i h1; exact absurd h h1
    split at h
    · cases h
    · rename_i h1 h2
      exact ⟨Classical.not_not.1 h1, by omega, fun i hi => ntE_zero.1 ((firstE_zero _ _).1 h i hi)⟩
  · rintro ⟨h1, h2, h3⟩
    rw [if_neg (fun h => h h1), if_neg (by omega)]
    exact (firstE_zero _ _).2 fun i hi => ntE_zero.2 (h3 i hi)
/- the value of a place -/
theorem plV_eq {p : Pc} {m : Int} {i : Nat} (h : NtOk p m i) : plV p m i = (partQ (gS p.ns i).2.toNat (grdN p m (gS p.ns i).1.toNat) (baseN p (gS p.ns i).1.toNat) : Int) := by
  have hz := ntE_zero.2 h
  unfold ntE at hz
  rw [if_neg (by have := h.e0; have := h.e1; omega), partE_zero] at hz
  unfold plV partV partN
  rw [hz]
  simp
theorem plV_bd {p : Pc} {m : Int} {i : Nat} (h : NtOk p m i) : 0 ≤ plV p m i ∧ plV p m i ≤ grdN p m (gS p.ns i).1.toNat := by
  rw [plV_eq h]
  have := part_le (t := grdN p m (gS p.ns i).1.toNat) h.b1 (show (gS p.ns i).2.toNat ≤ _ by have := h.a1; have := h.a0; omega)
  omega
/- points -/
def spS (p : Pc) (m : Int) (i : Nat) : Spot := alongS (gE (gradedE p.es p.cs m) (gS p.ns i).1.toNat).2 (plV p m i)
def spTo (p : Pc) (m : Int) (k : Nat) : List Spot := (List.range k).map (spS p m)
def spL (p : Pc) (m : Int) : List Spot := spTo p m p.ns.length
theorem spTo_succ (p : Pc) (m : Int) (k : Nat) : spTo p m (k + 1) = spTo p m k ++ [spS p m k] := by unfold spTo; rw [List.range_succ, List.map_append]; rfl
theorem spTo_len (p : Pc) (m : Int) (k : Nat) : (spTo p m k).length = k := by simp [spTo]
theorem spL_len (p : Pc) (m : Int) : (spL p m).length = p.ns.length := spTo_len _ _ _
theorem spL_get {p : Pc} {m : Int} {i : Nat} (h : i < p.ns.length) : gS (spL p m) i = spS p m i := by
  rw [gS_eq (by rw [spL_len]; exact h)]; simp [spL, spTo]
theorem sp_ok {p : Pc} {m : Int} (h : PlOk p m) {i : Nat} (hi : i < p.ns.length) : alongE (gE (gradedE p.es p.cs m) (gS p.ns i).1.toNat).2 (plV p m i) = 0 ∧ lcheck (gE (gradedE p.es p.cs m) (gS p.ns i).1.toNat).2 = 0 ∧ lcheck (gE p.es (gS p.ns i).1.toNat).2 = 0 := by
  have hn := h.i i hi
  have hb := plV_bd hn
  have hk : (gS p.ns i).1.toNat < p.es.length := by have := hn.e0; have := hn.e1; omega
  have hl := graded_lines h.g hk
  refine ⟨?_, hl, ocheck_line ((gradedR_iff _ _ _).1 h.g).ok hk⟩
  unfold alongE
  rw [if_neg (fun h => h hl), if_neg (by unfold grdN at hb; omega)]
theorem part_self {a t : Nat} (h : 1 ≤ t) : partQ a t t = a := by
  rw [← part_code h, Nat.mul_div_cancel _ (by omega), Nat.mul_mod_left, if_neg (by omega)]; rfl
/- in the base size a notch stays where it is -/
theorem plV_zero {p : Pc} {m : Int} (h : PlOk p m) : PlOk p 0 ∧ ∀ i, i < p.ns.length → plV p 0 i = (gS p.ns i).2 := by
  have hg := (gradedR_iff _ _ _).1 h.g
  obtain ⟨h0, h1⟩ := graded_zero hg
  have hN : ∀ i, i < p.ns.length → NtOk p 0 i := fun i hi => ⟨(h.i i hi).e0, (h.i i hi).e1, (h.i i hi).b1, (h.i i hi).a0, (h.i i hi).a1⟩
  refine ⟨⟨h0, h.n, hN⟩, fun i hi => ?_⟩
  rw [plV_eq (hN i hi)]
  have e : grdN p 0 (gS p.ns i).1.toNat = baseN p (gS p.ns i).1.toNat := by unfold grdN baseN; rw [h1]
  rw [e, part_self (hN i hi).b1]
  have := (hN i hi).a0
  omega
theorem plV_ends {p : Pc} {m : Int} {i : Nat} (h : NtOk p m i) : ((gS p.ns i).2 = 0 → plV p m i = 0) ∧ ((gS p.ns i).2 = baseN p (gS p.ns i).1.toNat → plV p m i = grdN p m (gS p.ns i).1.toNat) := by
  refine ⟨fun e => ?_, fun e => ?_⟩
  · rw [plV_eq h, e]
    have := part_zero (t := grdN p m (gS p.ns i).1.toNat) h.b1
    simp [this]
  · rw [plV_eq h, e]
    have := part_full (t := grdN p m (gS p.ns i).1.toNat) h.b1
    simp [this]
theorem plV_mono {p : Pc} {m : Int} {i j : Nat} (hi : NtOk p m i) (hj : NtOk p m j) (he : (gS p.ns i).1 = (gS p.ns j).1) (hle : (gS p.ns i).2 ≤ (gS p.ns j).2) : plV p m i ≤ plV p m j := by
  rw [plV_eq hi, plV_eq hj, he]
  have := hi.a0
  have := part_mono (t := grdN p m (gS p.ns j).1.toNat) (f := baseN p (gS p.ns j).1.toNat) (show (gS p.ns i).2.toNat ≤ (gS p.ns j).2.toNat by omega)
  omega
end Go.Proofs.YtkigmpholnfkbaaGreat
