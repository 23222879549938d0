/- garmentlaw22.pair, alive -/
import Derived.Test.YtnfchkkokgmliaaKDiv64
import Derived.Test.YtnfchkkokgmliaaKSq22
import Derived.Test.YtnfchkkokgmliaaKUnfit
import Derived.Test.YtnfchkkokgmliaaKCong
import Derived.Test.YtnfchkkokgmliaaKSameI
/- plain: the partner of a place; no program in sight -/
namespace Go.Proofs.Ytnfchkkokgmliaa
def partQ (a t f : Nat) : Nat := (2 * (a * t) + f) / (2 * f)
theorem part_code {a t f : Nat} (hf : 1 ≤ f) : a * t / f + (if f ≤ 2 * (a * t % f) then 1 else 0) = partQ a t f := by
  unfold partQ
  have e := Nat.div_add_mod (a * t) f
  have hm := Nat.mod_lt (a * t) (show f > 0 by omega)
  generalize a * t = X at *
  generalize X / f = q at *
  generalize X % f = r at *
  have e2 : 2 * X + f = (2 * r + f) + 2 * f * q := by rw [← e, Nat.mul_add, Nat.mul_assoc]; omega
  rw [e2, Nat.add_mul_div_left _ _ (by omega)]
  split
  · rename_i h
    have : (2 * r + f) / (2 * f) = 1 := by rw [Nat.div_eq_iff (by omega)]; omega
    omega
  · rename_i h
    have : (2 * r + f) / (2 * f) = 0 := Nat.div_eq_of_lt (by omega)
    omega
theorem part_zero {t f : Nat} (hf : 1 ≤ f) : partQ 0 t f = 0 := by
  unfold partQ; rw [Nat.zero_mul]; exact Nat.div_eq_of_lt (by omega)
theorem part_full {t f : Nat} (hf : 1 ≤ f) : partQ f t f = t := by
  rw [← part_code hf, Nat.mul_mod_right, Nat.mul_div_cancel_left _ (by omega), if_neg (by omega)]; rfl
theorem part_mono {a b t f : Nat} (h : a ≤ b) : partQ a t f ≤ partQ b t f := by
  unfold partQ
  exact Nat.div_le_div_right (by have := Nat.mul_le_mul_right t h; omega)
theorem part_le {a t f : Nat} (hf : 1 ≤ f) (h : a ≤ f) : partQ a t f ≤ t := by
  have := part_mono (t := t) (f := f) h
  rwa [part_full hf] at this
theorem part_near {a t f : Nat} (hf : 1 ≤ f) : 2 * (partQ a t f * f) ≤ 2 * (a * t) + f ∧ 2 * (a * t) < 2 * (partQ a t f * f) + f := by
  unfold partQ
  have e := Nat.div_add_mod (2 * (a * t) + f) (2 * f)
  have hm := Nat.mod_lt (2 * (a * t) + f) (show 2 * f > 0 by omega)
  rw [Nat.mul_assoc, Nat.mul_comm f] at e
  generalize (2 * (a * t) + f) / (2 * f) * f = z at *
  generalize (2 * (a * t) + f) % (2 * f) = y at *
  omega
/- the digits -/
structure Digs (a rest c k q l : Nat) : Prop where
  sum : q * c + l = a / 2 ^ k * rest
  lt : l < c
theorem digs_start {a rest c : Nat} (ha : a < 2199023255552) (hc : 1 ≤ c) : Digs a rest c 41 0 0 := by
  refine ⟨?_, by omega⟩
  rw [show a / 2 ^ 41 = 0 from Nat.div_eq_of_lt (by omega)]; simp
theorem digs_on {a rest c k q l b : Nat} (h : Digs a rest c (k + 1) q l) (hc : 1 ≤ c) (hb : b = a / 2 ^ k % 2) : Digs a rest c k (2 * q + (2 * l + b * rest) / c) ((2 * l + b * rest) % c) := by
  refine ⟨?_, Nat.mod_lt _ (by omega)⟩
  have e := Nat.div_add_mod (2 * l + b * rest) c
  have e1 : a / 2 ^ k = 2 * (a / 2 ^ (k + 1)) + b := by
    rw [Nat.pow_succ, ← Nat.div_div_eq_div_mul, hb]; omega
  have hs := h.sum
  have h1 : (2 * q + (2 * l + b * rest) / c) * c = 2 * (q * c) + (2 * l + b * rest) / c * c := by rw [Nat.add_mul, Nat.mul_assoc]
  have h2 : (2 * (a / 2 ^ (k + 1)) + b) * rest = 2 * (a / 2 ^ (k + 1) * rest) + b * rest := by rw [Nat.add_mul, Nat.mul_assoc]
  rw [h1, e1, h2, ← hs]
  rw [Nat.mul_comm c] at e
  generalize (2 * l + b * rest) / c * c = z at *
  generalize (2 * l + b * rest) % c = y at *
  omega
theorem digs_end {a b c q l : Nat} (h : Digs a (b % c) c 0 q l) (hc : 1 ≤ c) : a * (b / c) + (q + if c ≤ 2 * l then 1 else 0) = partQ a b c := by
  rw [← part_code hc]
  have hs := h.sum
  rw [Nat.pow_zero, Nat.div_one] at hs
  have hl := h.lt
  have e := Nat.div_add_mod b c
  have e2 : a * b = l + c * (q + a * (b / c)) := by
    have : a * b = a * (c * (b / c) + b % c) := by rw [e]
    rw [this, Nat.mul_add, ← hs, Nat.mul_add, Nat.mul_comm c q, Nat.mul_left_comm]
    omega
  rw [e2, Nat.add_mul_div_left _ _ (by omega), Nat.add_mul_mod_self_left, Nat.div_eq_of_lt hl, Nat.mod_eq_of_lt hl]
  omega
end Go.Proofs.Ytnfchkkokgmliaa
/- seam.Partner -/
namespace Go.Proofs.Ytnfchkkokgmliaa
open Go.RowKit
def prtB (f t a : Int) : Bool := decide (1 ≤ f ∧ f ≤ 1099511627776 ∧ 0 ≤ t ∧ t ≤ 1099511627776 ∧ 0 ≤ a ∧ a ≤ f)
def partN (f t : Int) (r : Bool) (a : Int) : Int := if r = true then t - (partQ a.toNat t.toNat f.toNat : Int) else (partQ a.toNat t.toNat f.toNat : Int)
def partV (f t : Int) (r : Bool) (a : Int) : Int := if prtB f t a = true then partN f t r a else 0
def partE (f t a : Int) : Int := if prtB f t a = true then 0 else 3
def RetPt (w : World) (f t : Int) (r : Bool) (a : Int) (e : Ending) (w' : World) : Prop := e = .returned (.tuple #[.int .i64 (partV f t r a), .int .i64 (partE f t a)]) ∧ Ext w w'
theorem retPt_bad {w : World} {f t a : Int} {r : Bool} (h : ¬ (1 ≤ f ∧ f ≤ 1099511627776 ∧ 0 ≤ t ∧ t ≤ 1099511627776 ∧ 0 ≤ a ∧ a ≤ f)) : RetPt w f t r a (.returned (.tuple #[.int .i64 0, .int .i64 3])) w := by
  have hb : prtB f t a = false := decide_eq_false h
  refine ⟨?_, Ext.refl _⟩
  unfold partV partE
  rw [hb]; rfl
theorem retPt_ok {w w' : World} {f t a : Int} {r : Bool} {x : Int} (h : 1 ≤ f ∧ f ≤ 1099511627776 ∧ 0 ≤ t ∧ t ≤ 1099511627776 ∧ 0 ≤ a ∧ a ≤ f) (hx : x = partN f t r a) (he : Ext w w') : RetPt w f t r a (.returned (.tuple #[.int .i64 x, .int .i64 0])) w' := by
  have hb : prtB f t a = true := decide_eq_true h
  refine ⟨?_, he⟩
  unfold partV partE
  rw [hb, if_pos rfl, if_pos rfl, hx]
set_option maxRecDepth 100000 in
set_option maxHeartbeats 1600000 in
theorem partner_any (f t a : Int) (r : Bool) (w : World) :
    Calls Try.prog 13 #[.int .i64 f, .int .i64 t, .bool r, .int .i64 a] w (RetPt w f t r a) := by
  by_cases h1 : f < 1
  · go_enter Try.func13, Try.ntmps13
    go_wp2_with fail
    go_ret2
    exact retPt_bad (by omega)
  by_cases h2 : 1099511627776 < f
  · go_enter Try.func13, Try.ntmps13
    go_wp2_with fail
    go_ret2
    exact retPt_bad (by omega)
  by_cases h3 : t < 0
  · go_enter Try.func13, Try.ntmps13
    go_wp2_with fail
    go_ret2
    exact retPt_bad (by omega)
  by_cases h4 : 1099511627776 < t
  · go_enter Try.func13, Try.ntmps13
    go_wp2_with fail
    go_ret2
    exact retPt_bad (by omega)
  by_cases h5 : a < 0
  · go_enter Try.func13, Try.ntmps13
    go_wp2_with fail
    go_ret2
    exact retPt_bad (by omega)
  by_cases h6 : f < a
  · go_enter Try.func13, Try.ntmps13
    go_wp2_with fail
    go_ret2
    exact retPt_bad (by omega)
  obtain ⟨F, rfl⟩ := Int.eq_ofNat_of_zero_le (show 0 ≤ f by omega)
  obtain ⟨T, rfl⟩ := Int.eq_ofNat_of_zero_le (show 0 ≤ t by omega)
  obtain ⟨X, rfl⟩ := Int.eq_ofNat_of_zero_le (show 0 ≤ a by omega)
  have HOK : Hid (1 ≤ (F : Int) ∧ (F : Int) ≤ 1099511627776 ∧ 0 ≤ (T : Int) ∧ (T : Int) ≤ 1099511627776 ∧ 0 ≤ (X : Int) ∧ (X : Int) ≤ (F : Int)) := ⟨by omega, by omega, by omega, by omega, by omega, by omega⟩
  have hF1 : 1 ≤ F := by omega
  have hF2 : F ≤ 1099511627776 := by omega
  have hT2 : T ≤ 1099511627776 := by omega
  have hX2 : X ≤ F := by omega
  have ux : IntKind.u64.wrap (X : Int) = (X : Int) := u64_wrap X (by omega)
  have ut : IntKind.u64.wrap (T : Int) = (T : Int) := u64_wrap T (by omega)
  have uf : IntKind.u64.wrap (F : Int) = (F : Int) := u64_wrap F (by omega)
  have hle : X * T ≤ F * 1099511627776 := Nat.mul_le_mul hX2 hT2
  have hhi : X * T / 18446744073709551616 < F := by
    rw [Nat.div_lt_iff_lt_mul (by omega)]
    have : F * 1099511627776 < F * 18446744073709551616 := Nat.mul_lt_mul_of_pos_left (by omega) (by omega)
    omega
  go_enter Try.func13, Try.ntmps13
  go_wp2_with fail
  refine (mul64_any X T (by omega) (by omega) _).mono ?_
  rintro e w1 ⟨rfl, rfl⟩
  obtain ⟨HI, hHI⟩ : ∃ HI, HI = X * T / 18446744073709551616 := ⟨_, rfl⟩
  obtain ⟨LO, hLO⟩ : ∃ LO, LO = X * T % 18446744073709551616 := ⟨_, rfl⟩
  rw [← hHI, ← hLO]
  rw [← hHI] at hhi
  have hlo : LO < 18446744073709551616 := by rw [hLO]; exact Nat.mod_lt _ (by omega)
  have HSUM : Hid (HI * 18446744073709551616 + LO = X * T) := by
    show _ = _
    rw [hHI, hLO, Nat.mul_comm]; exact Nat.div_add_mod _ _
  clear hHI hLO ux ut
  go_wp2_with fail
  refine (div64_any HI LO F _ hlo hhi (by omega)).mono ?_
  rintro e w2 ⟨rfl, he2⟩
  rw [HSUM.out]
  have HXX := Lib.hid he2
  have hle2 : partQ X T F ≤ T := part_le hF1 hX2
  have hcode := part_code (a := X) (t := T) (f := F) hF1
  obtain ⟨Q, hQ⟩ : ∃ Q, Q = X * T / F := ⟨_, rfl⟩
  obtain ⟨R, hR⟩ : ∃ R, R = X * T % F := ⟨_, rfl⟩
  have hRl : R < F := by rw [hR]; exact Nat.mod_lt _ (by omega)
  rw [← hQ, ← hR] at hcode ⊢
  obtain ⟨N, hN⟩ : ∃ N, N = partQ X T F := ⟨_, rfl⟩
  rw [← hN] at hle2 hcode
  have HN : Hid (∀ r, partN (F : Int) (T : Int) r (X : Int) = if r = true then (T : Int) - (N : Int) else (N : Int)) := fun r => by unfold partN; rw [hN]; simp
  have u2 : IntKind.u64.wrap (2 * (R : Int)) = 2 * (R : Int) := by rw [IntKind.wrap_u64]; omega
  have u3 : IntKind.u64.wrap ((Q : Int) + 1) = (Q : Int) + 1 := by rw [IntKind.wrap_u64]; split at hcode <;> omega
  have u4 : IntKind.i64.wrap ((Q : Int) + 1) = (Q : Int) + 1 := IntWalk.i64_in _ (by split at hcode <;> omega)
  have u5 : IntKind.i64.wrap (Q : Int) = (Q : Int) := IntWalk.i64_in _ (by split at hcode <;> omega)
  clear he2 hQ hR hN hle hlo hhi HSUM
  by_cases hc : F ≤ 2 * R
  · rw [if_pos hc] at hcode
    have hci : (F : Int) ≤ 2 * (R : Int) := by omega
    cases r
    · go_wp2_with fail
      go_ret2
      exact retPt_ok HOK.out (by rw [HN.out]; simp; omega) HXX.out
    · go_wp2_with fail
      go_ret2
      exact retPt_ok HOK.out (by rw [HN.out]; simp; omega) HXX.out
  · rw [if_neg hc] at hcode
    have hci : ¬ (F : Int) ≤ 2 * (R : Int) := by omega
    cases r
    · go_wp2_with fail
      go_ret2
      exact retPt_ok HOK.out (by rw [HN.out]; simp; omega) HXX.out
    · go_wp2_with fail
      go_ret2
      exact retPt_ok HOK.out (by rw [HN.out]; simp; omega) HXX.out
end Go.Proofs.Ytnfchkkokgmliaa
namespace Go.Proofs.Ytnfchkkokgmliaa
open Go.RowKit
def pairS : Sty := ⟨[0, 3], [sqP], [⟨0, 0, 0, 1, false, 2999⟩]⟩
def RetSt (w : World) (s : Sty) (e : Ending) (w' : World) : Prop := ∃ a, e = .returned (StyA.val a) ∧ StyAt w' a s ∧ a.nK ≤ 1000 ∧ Ext w w'
theorem pair_len1 : lensV pairS 1 0 = (13000, 10000, 0) := by decide +kernel
theorem pair_unf1 : unfE pairS 1 = 0 := by decide +kernel
theorem pair_unf1L : unfL pairS 1 = [0] := by decide +kernel
theorem pair_unf0 : unfE pairS 0 = 0 := by decide +kernel
theorem pair_unf0L : unfL pairS 0 = [] := by decide +kernel
theorem pair_part : partV 10 25 true 3 = 17 ∧ partE 10 25 3 = 0 := by decide +kernel
theorem pair_cong : cgN [(0, 0), (2, 0)] [(5, 5), (5, 7)] = 1 ∧ cgD [(0, 0), (2, 0)] [(5, 5), (5, 7)] 1 = (5, 5) := by decide +kernel
theorem pair_fin {w w1 W5 : World} {a : PcA} (hk : Kept (fun k => k = w.heap.size) w1 W5) (hsz : W5.heap.size = w1.heap.size)
    (ha : ∀ W, Kept (fun k => k < w.heap.size + 1 + 1 + 1) w1 W → PcAt W a sqP) (hM : Blk 3 w1 (w.heap.size + 1 + 1) (icells [0, 3])) (S : Option Addr) (nS cS : Nat) :
    StyAt ((W5.alloc (.cells a.cells.toArray 27)).alloc (.cells #[.int .i64 0, .int .i64 0, .int .i64 0, .int .i64 1, .bool false, .int .i64 2999] 73)) ⟨⟨#[]⟩, S, nS, cS, some ⟨w.heap.size + 1 + 1, 0, none⟩, 2, 2, some ⟨w1.heap.size, 0, none⟩, 1, 1, none, 0, 0, some ⟨w1.heap.size + 1, 0, none⟩, 1, 1, none, 0, 0⟩ pairS := by
  have hl := hM.lt
  have hx : Ext W5 ((W5.alloc (.cells a.cells.toArray 27)).alloc (.cells #[.int .i64 0, .int .i64 0, .int .i64 0, .int .i64 1, .bool false, .int .i64 2999] 73)) := ((Ext.refl _).alloc _).alloc _
  have hM' := (hk.blk hM (by omega)).ext hx
  have hP := (Blk.new' (cs := a.cells) (t := 27) (w := W5) (g := w1.heap.size) hsz.symm).ext ((Ext.refl _).alloc (.cells #[.int .i64 0, .int .i64 0, .int .i64 0, .int .i64 1, .bool false, .int .i64 2999] 73))
  have hK := Blk.new' (cs := [.int .i64 0, .int .i64 0, .int .i64 0, .int .i64 1, .bool false, .int .i64 2999]) (t := 73) (w := W5.alloc (.cells a.cells.toArray 27)) (g := w1.heap.size + 1) (by simp [hsz])
  have hpc := ha _ ((hk.mono (fun k _ h => by omega)).trans (hx.kept _))
  refine ⟨(OwnI.plain (own_of_int (base := 0) (L := [0, 3]) hM' (Nat.zero_le _) (by decide))).2.1, fun k hk' => ?_, fun k hk' => ?_, rfl, rfl, rfl, by simp only; omega, by simp only; omega, by simp only; omega⟩
  · match k, hk' with
    | 0, _ => exact ⟨w1.heap.size, 0, a, rfl, hpc, hP.cell 0, hP.cell 1, hP.cell 2, hP.cell 3, hP.cell 4, hP.cell 5, hP.cell 6⟩
  · match k, hk' with
    | 0, _ => exact ⟨w1.heap.size + 1, 0, rfl, hK.cell 0, hK.cell 1, hK.cell 2, hK.cell 3, hK.cell 4, hK.cell 5⟩
set_option maxRecDepth 100000 in
set_option maxHeartbeats 1600000 in
theorem pair_any (w : World) : Calls Try.prog 11 #[] w (RetSt w pairS) := by
  go_enter Try.func11, Try.ntmps11
  go_wp2_with fail
  refine (sq22_any _).mono ?_
  rintro e w1 ⟨a, rfl, ha, he⟩
  have HR1 : Hid (Blk 55 w1 w.heap.size [.string ⟨#[]⟩, .slice none 0 0, .slice none 0 0, .slice none 0 0, .slice none 0 0, .slice none 0 0, .slice none 0 0]) := (((Blk.new' rfl).ext ((Ext.refl _).alloc _)).ext ((Ext.refl _).alloc _)).ext he
  have HM1 : Hid (Blk 3 w1 (w.heap.size + 1 + 1) (icells [0, 3])) := (Blk.new' (by simp)).ext he
  have HX1 : Hid (Ext w w1) := ((((Ext.refl w).alloc _).alloc _).alloc _).trans he
  have HA := Lib.hid ha; clear ha he
  simp only [Array.size_push, World.alloc] at HA
  have HFN := Lib.hid (fun W5 hk hsz => pair_fin (w := w) (w1 := w1) (W5 := W5) (a := a) hk hsz HA.out HM1.out (some ⟨w.heap.size + 1, 0, none⟩) 2 2)
  obtain ⟨nm, AE, nE, cE, gr, AN, nN, cN, AC, nC, cC, AW, nW, cW, mt⟩ := a
  simp only [PcA.val]
  simp only [PcA.cells] at HFN
  clear HA HM1
  obtain ⟨r0, r1, r2, r3, r4, r5, r6⟩ := blk7 HR1.out
  have f0 := HR1.out.frozen 0
  have f1 := HR1.out.frozen 1
  have f2 := HR1.out.frozen 2
  have f3 := HR1.out.frozen 3
  have f4 := HR1.out.frozen 4
  have f5 := HR1.out.frozen 5
  have f6 := HR1.out.frozen 6
  have hlt : w.heap.size < w1.heap.size := HR1.out.lt
  go_wp2_with fail
  refine bodyPost_ret (v := .agg #[.string ⟨#[]⟩, .slice (some ⟨w.heap.size + 1, 0, none⟩) 2 2, .slice (some ⟨w.heap.size + 1 + 1, 0, none⟩) 2 2, .slice (some ⟨w1.heap.size, 0, none⟩) 1 1, .slice none 0 0, .slice (some ⟨w1.heap.size + 1, 0, none⟩) 1 1, .slice none 0 0]) (by simp [results, Try.results11, go_sem, r0, r1, r2, r3, r4, r5, r6, hlt]) rfl ?_
  refine ⟨_, rfl, HFN.out _ (kset (kset (kset (kset (kset (kset (kset (Kept.refl _ _) _ _) _ _) _ _) _ _) _ _) _ _) _ _) (by simp [World.setCell]), Nat.le_of_ble_eq_true rfl, ?_⟩
  exact (((kset (kset (kset (kset (kset (kset (kset (Kept.refl (fun k => k = w.heap.size) w1) _ _) _ _) _ _) _ _) _ _) _ _) _ _).ext HX1.out (fun k hk => by omega)).alloc _).alloc _
set_option maxRecDepth 100000 in
set_option maxHeartbeats 1600000 in
theorem alive_any (w : World) : Calls Try.prog 5 #[] w fun e w' => e = .returned (.bool true) ∧ Ext w w' := by
  go_enter Try.func5, Try.ntmps5
  go_wp2_with fail
  refine (pair_any _).mono ?_
  rintro e w1 ⟨a, rfl, ha, hn, he1⟩
  go_wp2_with fail
  refine (lengths_any a pairS 1 0 _ ha).mono ?_
  rintro e w2 ⟨rfl, he2⟩
  rw [pair_len1]
  simp only [LenV]
  have HX2 := Lib.hid (he1.trans he2); clear he1 he2 ha hn
  go_wp2_with fail
  refine (pair_any _).mono ?_
  rintro e w3 ⟨b, rfl, hb, hn, he3⟩
  go_wp2_with fail
  refine (unfit_any b pairS 1 _ hb hn).mono ?_
  rintro e w4 ⟨v4, rfl, hv4, _, he4⟩
  have ho4 := hv4 pair_unf1
  rw [pair_unf1L] at ho4
  rw [pair_unf1]
  obtain ⟨A4, c4, hvf, hI4, _⟩ := OwnI.slice' (n := 1) ho4 rfl
  subst hvf
  have HI4 := Lib.hid hI4
  have HX4 := Lib.hid ((HX2.out.trans he3).trans he4); clear he3 he4 hb hn hv4 ho4 hI4
  go_wp2_with fail
  refine (pair_any _).mono ?_
  rintro e w5 ⟨c, rfl, hc, hn, he5⟩
  go_wp2_with fail
  refine (unfit_any c pairS 0 _ hc hn).mono ?_
  rintro e w6 ⟨v6, rfl, hv6, _, he6⟩
  have ho6 := hv6 pair_unf0
  rw [pair_unf0L] at ho6
  rw [pair_unf0]
  obtain ⟨A6, c6, hvf, hI6, _⟩ := OwnI.slice' (n := 0) ho6 rfl
  subst hvf
  have HX46 := Lib.hid (he5.trans he6)
  clear he5 he6 hc hn hv6 ho6 hI6
  go_wp2_with fail
  refine (partner_any 10 25 3 true _).mono ?_
  rintro e w7 ⟨rfl, he7⟩
  rw [pair_part.1, pair_part.2]
  have HX47 := Lib.hid (HX46.out.trans he7)
  clear he7
  go_wp2_with fail
  have hS1 : SpotsAt ((w7.alloc (.cells #[.int .i64 0, .int .i64 0, .int .i64 2, .int .i64 0] 38)).alloc (.cells #[.int .i64 5, .int .i64 5, .int .i64 5, .int .i64 7] 38)) (some ⟨w7.heap.size, 0, none⟩) [(0, 0), (2, 0)] :=
    (OwnT.plain (own_of_blk (t := 38) (base := 0) (L := [(0, 0), (2, 0)]) ((Blk.new' rfl).ext ((Ext.refl _).alloc _)) (Nat.zero_le _) (by decide))).2
  have hS2 : SpotsAt ((w7.alloc (.cells #[.int .i64 0, .int .i64 0, .int .i64 2, .int .i64 0] 38)).alloc (.cells #[.int .i64 5, .int .i64 5, .int .i64 5, .int .i64 7] 38)) (some ⟨w7.heap.size + 1, 0, none⟩) [(5, 5), (5, 7)] :=
    (OwnT.plain (own_of_blk (t := 38) (base := 0) (L := [(5, 5), (5, 7)]) (Blk.new' (by simp)) (Nat.zero_le _) (by decide))).2
  refine (congruent_any _ _ 2 2 2 2 [(0, 0), (2, 0)] [(5, 5), (5, 7)] _ hS1 hS2 rfl rfl (by omega)).mono ?_
  rintro e w8 ⟨rfl, he8⟩
  rw [if_pos ⟨rfl, by decide, by rw [pair_cong.1]; decide⟩, pair_cong.1, pair_cong.2, show cgF 1 = false from rfl, show cgQ 1 = 1 from rfl]
  have HX48 := Lib.hid (HX47.out.trans ((((Ext.refl _).alloc _).alloc _).trans he8))
  clear he8 hS1 hS2
  go_wp2_with fail
  have HX9 : Hid (Ext w8 (((w8.alloc (.cells #[.bool false, .int .i64 1] 36)).alloc (.cells #[.int .i64 5, .int .i64 5] 38)).alloc (.cells #[.int .i64 0] 3))) := (((Ext.refl _).alloc _).alloc _).alloc _
  refine (sameInts_eq A4 _ 1 c4 1 [0] _ (HI4.out.ext (HX48.out.trans HX9.out)) (OwnI.plain (own_of_int (base := 0) (L := [0]) (Blk.new' (by simp)) (Nat.zero_le _) (by decide))).2.1 rfl (by omega)).mono ?_
  rintro e w9 ⟨rfl, he9⟩
  have HT : Hid (Blk 36 w9 w8.heap.size [.bool false, .int .i64 1]) := (((Blk.new' rfl).ext ((Ext.refl _).alloc _)).ext ((Ext.refl _).alloc _)).ext he9
  have HD : Hid (Blk 38 w9 (w8.heap.size + 1) [.int .i64 5, .int .i64 5]) := ((Blk.new' (by simp)).ext ((Ext.refl _).alloc _)).ext he9
  obtain ⟨t0, t1⟩ := blk2 HT.out
  obtain ⟨d0, d1⟩ := blk2 HD.out
  have HXf := Lib.hid (HX4.out.trans ((HX48.out.trans HX9.out).trans he9))
  clear he9
  go_wp2_with fail
  go_ret
  exact ⟨rfl, HXf.out⟩
end Go.Proofs.Ytnfchkkokgmliaa
