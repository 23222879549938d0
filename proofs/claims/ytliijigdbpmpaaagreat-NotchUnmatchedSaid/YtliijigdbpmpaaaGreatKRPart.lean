/- the reference: garmentref22.share, Partner -/
import Derived.Deep.CutRange
import Derived.Deep.CutBlock
import Derived.Test.YtliijigdbpmpaaaGreatKPart
namespace Go.Proofs.YtliijigdbpmpaaaGreat
open Go.RowKit
theorem digs_q {a R c k q l : Nat} (h : Digs a R c k q l) (hR : R < c) : q ≤ a := by
  have hs := h.sum
  have h1 : a / 2 ^ k * R ≤ a * c := Nat.mul_le_mul (Nat.div_le_self _ _) (Nat.le_of_lt hR)
  exact Nat.le_of_mul_le_mul_right (show q * c ≤ a * c by omega) (by omega)
theorem part_le_b {a b c : Nat} (hc : 1 ≤ c) (ha : a ≤ c) : partQ a b c ≤ b := part_le hc ha
set_option maxRecDepth 100000 in
set_option maxHeartbeats 1600000 in
theorem share_any (a b c : Nat) (w : World) (hc : 1 ≤ c) (hc2 : c ≤ 1099511627776) (hb : b ≤ 1099511627776) (ha : a ≤ c) :
    Calls Tryz.prog 37 #[.int .i64 (a : Int), .int .i64 (b : Int), .int .i64 (c : Int)] w fun e w' => e = .returned (.int .i64 (partQ a b c : Int)) ∧ Ext w w' := by
  have hc0 : ((c : Int) == 0) = false := by simp; omega
  have hc1 : ¬ (c : Int) = 0 := by omega
  have hcn : ¬ c = 0 := by omega
  go_enter Tryz.func37, Tryz.ntmps37
  go_wp2_with fail
  go_quiet (fail)
  go_wp2_with fail
  obtain ⟨D, hD⟩ : ∃ D, D = b / c := ⟨_, rfl⟩
  obtain ⟨R, hR⟩ : ∃ R, R = b % c := ⟨_, rfl⟩
  obtain ⟨O, hO⟩ : ∃ O, O = a * D := ⟨_, rfl⟩
  have hRl : R < c := by rw [hR]; exact Nat.mod_lt _ (by omega)
  have hOb : O ≤ b := by
    rw [hO, hD]
    exact Nat.le_trans (Nat.mul_le_mul_right _ ha) (Nat.mul_div_le _ _)
  have hDb : D ≤ b := by rw [hD]; exact Nat.div_le_self _ _
  have g1 : wrap64 ((b : Int) / (c : Int)) = (D : Int) := by rw [← Int.natCast_ediv, ← hD]; exact IntWalk.wrap64_in _ ⟨by omega, by omega⟩
  have g2 : (b : Int) % (c : Int) = (R : Int) := by rw [← Int.natCast_emod, ← hR]
  have g3 : wrap64 ((a : Int) * (D : Int)) = (O : Int) := by rw [← Int.natCast_mul, ← hO]; exact IntWalk.wrap64_in _ ⟨by omega, by omega⟩
  simp only [g1, g2, g3]
  clear g1 g2 g3 hc0 hDb
  have HFIN : Hid (∀ q l : Nat, Digs a R c 0 q l → O + (q + if c ≤ 2 * l then 1 else 0) = partQ a b c) := fun q l h => by rw [hO, hD]; rw [hR] at h; exact digs_end h hc
  clear hD hR hO
  have hPb := part_le (t := b) hc ha
  refine wp_at fun W0 hW0 => ?_
  have hx0 : Ext w W0 := by rw [hW0]; exact Ext.drewN (Ext.refl _) _
  have HX0 := Lib.hid hx0; clear hW0 hx0
  go_loopw [10, 11, 12] (fun x y i wr => ∃ k q l : Nat, k ≤ 41 ∧ i = .int .i64 ((k : Int) - 1) ∧ x = .int .i64 (q : Int) ∧ y = .int .i64 (l : Int) ∧ Digs a R c k q l ∧ wr = W0) (fun _ _ i _ => ((intOf i) + 1).toNat)
  case atStart => exact ⟨41, 0, 0, Nat.le_refl _, rfl, rfl, rfl, digs_start (by omega) hc, rfl⟩
  case round =>
    obtain ⟨k, q, l, hk, rfl, rfl, rfl, hd, rfl⟩ := hrel
    have hll := hd.lt
    have HD := Lib.hid hd; clear hd
    match k, hk, HD with
    | 0, hk, HD =>
      have hfin := HFIN.out q l HD.out
      by_cases hcl : c ≤ 2 * l
      · rw [if_pos hcl] at hfin
        have hci : (c : Int) ≤ 2 * (l : Int) := by omega
        go_wp2_with fail
        go_ret
        exact ⟨ret_int (by omega), HX0.out⟩
      · rw [if_neg hcl] at hfin
        have hci : ¬ (c : Int) ≤ 2 * (l : Int) := by omega
        go_wp2_with fail
        go_ret
        exact ⟨ret_int (by omega), HX0.out⟩
    | j + 1, hk, HD =>
      obtain ⟨B, hB⟩ : ∃ B, B = a / 2 ^ j % 2 := ⟨_, rfl⟩
      have hon := digs_on HD.out hc hB
      have hq := digs_q HD.out hRl
      rw [show ((j + 1 : Nat) : Int) - 1 = (j : Int) from by omega]
      have hq' := digs_q hon hRl
      have ebit : ((a : Int) / 2 ^ j).tmod 2 = (B : Int) := by
        have e1 : (a : Int) / 2 ^ j = ((a / 2 ^ j : Nat) : Int) := by simp
        rw [e1, Int.tmod_eq_emod_of_nonneg (Int.natCast_nonneg _), hB]; exact (Int.natCast_emod _ _).symm
      have hB2 : B < 2 := by rw [hB]; exact Nat.mod_lt _ (by omega)
      clear hB
      by_cases hB1 : B = 1
      · subst hB1
        rw [Nat.one_mul] at hon hq'
        have hbit : (((a : Int) / 2 ^ j).tmod 2 == 1) = true := by rw [ebit]; rfl
        have HON := Lib.hid hon
        have HQ' := Lib.hid hq'
        clear ebit hon hq' hB2
        go_wp2_with fail
        refine ⟨⟨j, 2 * q + (2 * l + R) / c, (2 * l + R) % c, by omega, rfl, ?_, ?_, HON.out, trivial⟩, by simp [intOf]⟩
        · have h := HQ'.out
          have e : (2 * (q : Int) + (2 * (l : Int) + (R : Int)) / (c : Int)) = ((2 * q + (2 * l + R) / c : Nat) : Int) := by simp
          rw [e]
          generalize 2 * q + (2 * l + R) / c = q2 at *
          rw [IntWalk.wrap64_in _ ⟨by omega, by omega⟩]
        · simp
      · obtain rfl : B = 0 := by omega
        rw [Nat.zero_mul, Nat.add_zero] at hon hq'
        have hbit : (((a : Int) / 2 ^ j).tmod 2 == 1) = false := by rw [ebit]; rfl
        have HON := Lib.hid hon
        have HQ' := Lib.hid hq'
        clear ebit hon hq' hB2
        go_wp2_with fail
        refine ⟨⟨j, 2 * q + (2 * l) / c, (2 * l) % c, by omega, rfl, ?_, ?_, HON.out, trivial⟩, by simp [intOf]⟩
        · have h := HQ'.out
          have e : (2 * (q : Int) + (2 * (l : Int)) / (c : Int)) = ((2 * q + (2 * l) / c : Nat) : Int) := by simp
          rw [e]
          generalize 2 * q + (2 * l) / c = q2 at *
          rw [IntWalk.wrap64_in _ ⟨by omega, by omega⟩]
        · simp
set_option maxRecDepth 100000 in
set_option maxHeartbeats 1600000 in
theorem rpartner_any (f t a : Int) (r : Bool) (w : World) :
    Calls Tryz.prog 22 #[.int .i64 f, .int .i64 t, .bool r, .int .i64 a] w (RetPt w f t r a) := by
  by_cases h1 : f < 1
  · go_enter Tryz.func22, Tryz.ntmps22
    go_wp2_with fail
    go_ret2
    exact retPt_bad (by omega)
  by_cases h2 : 1099511627776 < f
  · go_enter Tryz.func22, Tryz.ntmps22
    go_wp2_with fail
    go_ret2
    exact retPt_bad (by omega)
  by_cases h3 : t < 0
  · go_enter Tryz.func22, Tryz.ntmps22
    go_wp2_with fail
    go_ret2
    exact retPt_bad (by omega)
  by_cases h4 : 1099511627776 < t
  · go_enter Tryz.func22, Tryz.ntmps22
    go_wp2_with fail
    go_ret2
    exact retPt_bad (by omega)
  by_cases h5 : a < 0
  · go_enter Tryz.func22, Tryz.ntmps22
    go_wp2_with fail
    go_ret2
    exact retPt_bad (by omega)
  by_cases h6 : f < a
  · go_enter Tryz.func22, Tryz.ntmps22
    go_wp2_with fail
    go_ret2
    exact retPt_bad (by omega)
  obtain ⟨F, rfl⟩ := Int.eq_ofNat_of_zero_le (show 0 ≤ f by omega)
  obtain ⟨T, rfl⟩ := Int.eq_ofNat_of_zero_le (show 0 ≤ t by omega)
  obtain ⟨X, rfl⟩ := Int.eq_ofNat_of_zero_le (show 0 ≤ a by omega)
  have HOK : Hid (1 ≤ (F : Int) ∧ (F : Int) ≤ 1099511627776 ∧ 0 ≤ (T : Int) ∧ (T : Int) ≤ 1099511627776 ∧ 0 ≤ (X : Int) ∧ (X : Int) ≤ (F : Int)) := ⟨by omega, by omega, by omega, by omega, by omega, by omega⟩
  have hF1 : 1 ≤ F := by omega
  have hX2 : X ≤ F := by omega
  have hle2 : partQ X T F ≤ T := part_le hF1 hX2
  have HN : Hid (∀ r, partN (F : Int) (T : Int) r (X : Int) = if r = true then (T : Int) - (partQ X T F : Int) else (partQ X T F : Int)) := fun r => by unfold partN; simp
  go_enter Tryz.func22, Tryz.ntmps22
  go_wp2_with fail
  refine (share_any X T F _ hF1 (by omega) (by omega) hX2).mono ?_
  rintro e w1 ⟨rfl, he1⟩
  obtain ⟨N, hN⟩ : ∃ N, N = partQ X T F := ⟨_, rfl⟩
  rw [← hN] at hle2 HN ⊢
  have HX := Lib.hid he1; clear he1 hN
  cases r
  · go_wp2_with fail
    go_ret2
    exact retPt_ok HOK.out (by rw [HN.out]; simp) HX.out
  · go_wp2_with fail
    go_ret2
    exact retPt_ok HOK.out (by rw [HN.out]; simp) HX.out
end Go.Proofs.YtliijigdbpmpaaaGreat
