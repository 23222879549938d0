/- the reference: garmentref25.widths, piece -/
import Derived.Deep.CutRange
import Derived.Deep.CutBlock
import Derived.Test.YtkigmpholnfkbaaGreatKRefN
import Derived.Test.YtkigmpholnfkbaaGreatKStP
/- the reference: garmentref10.Root -/
namespace Go.Proofs.YtkigmpholnfkbaaGreat
open Go.RowKit
set_option maxRecDepth 100000 in
set_option maxHeartbeats 1600000 in
theorem rroot_any (n : Nat) (w : World) (hn : n < 9223372036854775808) :
    Calls Tryz.prog 116 #[.int .i64 n] w fun e w' => e = .returned (.int .i64 (rootN n)) ∧ w = w' := by
  have hr := rootN_is n (by omega)
  have HRR := Lib.hid hr; clear hr
  go_enter Tryz.func116, Tryz.ntmps116
  go_wp2_with fail
  go_loop [3, 4] (fun o k => ∃ o' j : Nat, o = .int .i64 o' ∧ k = .int .i64 ((j : Int) - 1) ∧ j ≤ 32 ∧ o' * o' ≤ n ∧ n < (o' + 2 ^ j) * (o' + 2 ^ j) ∧ o' + 2 ^ j ≤ 4294967296) (fun _ k => (intOf k + 1).toNat)
  case atStart => exact ⟨0, 32, rfl, rfl, by omega, by omega, by simp; omega, by simp⟩
  case round =>
    obtain ⟨o, j, rfl, rfl, hj, h0, h1, h2⟩ := hrel
    have H0 := Lib.hid h0; have H1 := Lib.hid h1
    clear h0 h1
    cases j with
    | zero =>
      go_wp2_with fail
      go_ret
      exact ⟨ret_int (by rw [root_one HRR.out.1 HRR.out.2 H0.out (by simpa using H1.out)]), rfl⟩
    | succ i =>
      obtain ⟨p, hp⟩ : ∃ p : Nat, p = 2 ^ i := ⟨_, rfl⟩
      have hp2 : 2 ^ (i + 1) = 2 * p := by rw [hp, Nat.pow_succ]; omega
      rw [hp2] at h2 H1
      have hpi : (2 : Int) ^ i = (p : Int) := by rw [hp]; simp
      have hp0 : 0 < p := by rw [hp]; exact Nat.pow_pos (by omega)
      have HPP := Lib.hid hp
      clear hp hp2
      have hki : (((i + 1 : Nat) : Int) - 1) = i := by omega
      rw [hki]
      clear hki
      have hi31 : i ≤ 31 := by omega
      have hm0 : ((i : Int) % 18446744073709551616) = i := by omega
      have hm1 : (((o : Int) + p) % 18446744073709551616) = (o : Int) + p := by omega
      have hm2 : ((n : Int) % 18446744073709551616) = n := by omega
      have hsq : (o + p) * (o + p) < 18446744073709551616 := by
        have := Nat.mul_le_mul (show o + p ≤ 4294967295 by omega) (show o + p ≤ 4294967295 by omega)
        omega
      have hsqi : ((((o : Int) + p) * ((o : Int) + p)) % 18446744073709551616) = ((o : Int) + p) * ((o : Int) + p) := by
        have e : (((o : Int) + p) * ((o : Int) + p)) = (((o + p) * (o + p) : Nat) : Int) := by simp
        rw [e]; omega
      have HSQ := Lib.hid hsq; clear hsq
      by_cases hc : (o + p) * (o + p) ≤ n
      · have hci : ((o : Int) + p) * ((o : Int) + p) ≤ n := by
          have e : (((o : Int) + p) * ((o : Int) + p)) = (((o + p) * (o + p) : Nat) : Int) := by simp
          rw [e]; omega
        have HC := Lib.hid hc; clear hc
        go_wp2_with fail
        refine ⟨⟨o + p, i, by simp, rfl, by omega, HC.out, ?_, ?_⟩, by simp [intOf]⟩
        · have h := H1.out
          rw [show o + 2 * p = o + p + p from by omega] at h
          rw [← HPP.out]; exact h
        · rw [← HPP.out]; omega
      · have hci : ¬ ((o : Int) + p) * ((o : Int) + p) ≤ n := by
          have e : (((o : Int) + p) * ((o : Int) + p)) = (((o + p) * (o + p) : Nat) : Int) := by simp
          rw [e]; omega
        have HC := Lib.hid hc; clear hc
        go_wp2_with fail
        refine ⟨⟨o, i, rfl, rfl, by omega, H0.out, ?_, ?_⟩, by simp [intOf]⟩
        · rw [← HPP.out]; have := HC.out; omega
        · rw [← HPP.out]; omega
theorem rroot_int (n : Int) (w : World) (h0 : 0 ≤ n) (h1 : n < 9223372036854775808) :
    Calls Tryz.prog 116 #[.int .i64 n] w fun e w' => e = .returned (.int .i64 (rootN n.toNat)) ∧ w = w' := by
  have h := rroot_any n.toNat w (by omega)
  rwa [Int.toNat_of_nonneg h0] at h
set_option maxHeartbeats 800000 in
theorem rsegment_any (p q : Spot) (w : World) (hp : inB p) (hq : inB q) :
    Calls Tryz.prog 99 #[SV p, SV q] w fun e w' => e = .returned (.int .i64 (seg p q)) ∧ Ext w w' := by
  obtain ⟨px, py⟩ := p; obtain ⟨qx, qy⟩ := q
  obtain ⟨p1, p2, p3, p4⟩ := hp; obtain ⟨q1, q2, q3, q4⟩ := hq
  have hs : ((sqN (px, py) (qx, qy) : Nat) : Int) = (qx - px) * (qx - px) + (qy - py) * (qy - py) := by
    have h1 := (sq_bound (d := qx - px) (by omega) (by omega)).1
    have h2 := (sq_bound (d := qy - py) (by omega) (by omega)).1
    unfold sqN; exact Int.toNat_of_nonneg (by simp only; omega)
  have h1 := sq_bound (d := qx - px) (by omega) (by omega)
  have h2 := sq_bound (d := qy - py) (by omega) (by omega)
  simp only at p1 p2 p3 p4 q1 q2 q3 q4
  go_enter Tryz.func99, Tryz.ntmps99
  go_wp2_with fail
  go_quiet (fail)
  go_wp2_with fail
  refine (rroot_int _ _ (by omega) (by omega)).mono ?_
  rintro e w1 ⟨rfl, rfl⟩
  go_wp2_with fail
  go_ret
  refine ⟨ret_int ?_, (((Ext.refl _).alloc _).alloc _).drewN _⟩
  unfold seg
  congr 2
  omega
set_option maxHeartbeats 1600000 in
theorem rtotal_any (A : Option Addr) (n c : Nat) (l : List Spot) (w : World) (ha : SpotsAt w A l) (hl : l.length = n) (h1n : 1 ≤ n) (h40 : n ≤ 40) (hin : ∀ k, k < l.length → inB (gS l k)) :
    Calls Tryz.prog 84 #[.slice A n c] w fun e w' => e = .returned (.int .i64 (lenTo l (n - 1))) ∧ Ext w w' := by
  have HL := Lib.hid hl; clear hl
  have HA := Lib.hid ha; clear ha
  have HIN := Lib.hid hin; clear hin
  go_enter Tryz.func84, Tryz.ntmps84
  go_wp2_with fail
  go_loopw [3, 4] (fun s i wr => ∃ k : Nat, k + 1 ≤ n ∧ i = .int .i64 ((k : Int) + 1) ∧ s = .int .i64 (lenTo l k) ∧ Ext w wr) (fun _ i _ => n - (intOf i).toNat)
  case atStart => exact ⟨0, h1n, rfl, rfl, Ext.refl _⟩
  case round =>
    obtain ⟨k, hk, rfl, rfl, hx⟩ := hrel
    by_cases hlt : k + 1 < n
    · have hb := lenTo_le HIN.out k (by rw [HL.out]; omega)
      have hg := seg_le (HIN.out k (by rw [HL.out]; omega)) (HIN.out (k + 1) (by rw [HL.out]; omega))
      have hgh := Lib.hid (HIN.out k (by rw [HL.out]; omega)); have hgi := Lib.hid (HIN.out (k + 1) (by rw [HL.out]; omega))
      obtain ⟨b, off, rfl, hc0, hc1⟩ := (HA.out.ext hx).g (k := k) (by rw [HL.out]; omega)
      obtain ⟨hd0, hd1⟩ := (HA.out.ext hx).at1 (k := k + 1) (by rw [HL.out]; omega)
      have hs1 : IntKind.i64.wrap ((k : Int) + 1 - 1) = k := (IntWalk.i64_in _ (by omega)).trans (by omega)
      have hs1' : IntKind.i64.wrap (k : Int) = k := IntWalk.i64_in _ (by omega)
      have hs2 : ((k : Int) + 1).toNat = k + 1 := by omega
      have hs3 : (k : Int) + 1 < n := by omega
      have hs3' : (k : Int) < n := by omega
      have hs4 : 0 ≤ (k : Int) + 1 := by omega
      have hs5 : IntKind.i64.wrap ((lenTo l k : Int) + seg (gS l k) (gS l (k + 1))) = (lenTo l k : Int) + seg (gS l k) (gS l (k + 1)) := IntWalk.i64_in _ (by omega)
      go_wp2_with fail
      have d0 := fun z : After wr => After.cell hc0 z
      have d1 := fun z : After wr => After.cell hc1 z
      have d2 := fun z : After wr => After.cell hd0 z
      have d3 := fun z : After wr => After.cell hd1 z
      refine region_ext (by kernel_rfl) (by kernel_rfl) ?_
      repeat (go_big_quiet_step (
        (go_at_call 99; exact after_call (rsegment_any (gS l k) (gS l (k + 1)) _ hgh.out hgi.out))))
      refine wpQuiet_nil ?_
      rintro w1 ⟨⟨_, he⟩, rfl⟩
      clear hs1 hs2 hs4
      go_wp2_with fail
      go_roundw
      case rel => exact ⟨k + 1, by omega, by go_num, by simp [lenTo], hx.trans he⟩
      case measure => simp [intOf]; omega
    · have hlt' : ¬ (k : Int) + 1 < n := by omega
      have hkn : k = n - 1 := by omega
      go_wp2_with fail
      go_ret
      exact ⟨rfl, hx⟩
set_option maxHeartbeats 800000 in
theorem rlength_any (A : Option Addr) (n c : Nat) (l : List Spot) (w : World) (ha : SpotsAt w A l) (hl : l.length = n) :
    Calls Tryz.prog 61 #[.slice A n c] w fun e w' => e = .returned (.tuple #[.int .i64 (lengthN l), .int .i64 (lcheck l)]) ∧ Ext w w' := by
  have HL := Lib.hid hl; clear hl
  have HA := Lib.hid ha; clear ha
  go_enter Tryz.func61, Tryz.ntmps61
  go_wp2_with fail
  refine (rcheck_any A n c l w HA.out HL.out).mono ?_
  rintro e w1 ⟨rfl, hx⟩
  by_cases hz : lcheck l = 0
  · obtain ⟨h2, h40, hin⟩ := lcheck_zero hz
    rw [HL.out] at h2 h40
    have HIN := Lib.hid hin; clear hin
    have HZ := Lib.hid hz
    rw [hz]
    clear hz
    go_wp2_with fail
    refine (rtotal_any A n c l _ (HA.out.ext hx) HL.out (by omega) h40 HIN.out).mono ?_
    rintro e w2 ⟨rfl, he2⟩
    go_wp2_with fail
    go_ret2
    exact ⟨by unfold lengthN; rw [HZ.out, if_neg (by simp), HL.out]; rfl, hx.trans he2⟩
  · have hd : (lcheck l != 0) = true := by simp [hz]
    have HZ := Lib.hid hz; clear hz
    go_wp2_with fail
    go_ret2
    exact ⟨by unfold lengthN; rw [if_pos HZ.out]; rfl, hx⟩
end Go.Proofs.YtkigmpholnfkbaaGreat
/- the reference: garmentref22.share, Partner -/
namespace Go.Proofs.YtkigmpholnfkbaaGreat
open Go.RowKit
theorem digs_q {a R c k q l : Nat} (h : Digs a R c k q l) (hR : R < c) : q ≤ a := by
  have hs := h.sum
  have h1 : a / 2 ^ k * R ≤ a * c := Nat.mul_le_mul (Nat.div_le_self _ _) (Nat.le_of_lt hR)
  exact Nat.le_of_mul_le_mul_right (show q * c ≤ a * c by omega) (by omega)
theorem part_le_b {a b c : Nat} (hc : 1 ≤ c) (ha : a ≤ c) : partQ a b c ≤ b := part_le hc ha
set_option maxRecDepth 100000 in
set_option maxHeartbeats 1600000 in
theorem share_any (a b c : Nat) (w : World) (hc : 1 ≤ c) (hc2 : c ≤ 1099511627776) (hb : b ≤ 1099511627776) (ha : a ≤ c) :
    Calls Tryz.prog 100 #[.int .i64 (a : Int), .int .i64 (b : Int), .int .i64 (c : Int)] w fun e w' => e = .returned (.int .i64 (partQ a b c : Int)) ∧ Ext w w' := by
  have hc0 : ((c : Int) == 0) = false := by simp; omega
  have hc1 : ¬ (c : Int) = 0 := by omega
  have hcn : ¬ c = 0 := by omega
  go_enter Tryz.func100, Tryz.ntmps100
  go_wp2_with fail
  go_quiet (fail)
  go_wp2_with fail
  obtain ⟨D, hD⟩ : ∃ D, D = b / c := ⟨_, rfl⟩
  obtain ⟨R, hR⟩ : ∃ R, R = b % c := ⟨_, rfl⟩
  obtain ⟨O, hO⟩ : ∃ O, O = a * D := ⟨_, rfl⟩
  have hRl : R < c := by rw [hR]; exact Nat.mod_lt _ (by omega)
  have hOb : O ≤ b := by
    rw [hO, hD]
    exact Nat.le_trans (Nat.mul_le_mul_right _ ha) (Nat.mul_div_le _ _)
  have hDb : D ≤ b := by rw [hD]; exact Nat.div_le_self _ _
  have g1 : wrap64 ((b : Int) / (c : Int)) = (D : Int) := by rw [← Int.natCast_ediv, ← hD]; exact IntWalk.wrap64_in _ ⟨by omega, by omega⟩
  have g2 : (b : Int) % (c : Int) = (R : Int) := by rw [← Int.natCast_emod, ← hR]
  have g3 : wrap64 ((a : Int) * (D : Int)) = (O : Int) := by rw [← Int.natCast_mul, ← hO]; exact IntWalk.wrap64_in _ ⟨by omega, by omega⟩
  simp only [g1, g2, g3]
  clear g1 g2 g3 hc0 hDb
  have HFIN : Hid (∀ q l : Nat, Digs a R c 0 q l → O + (q + if c ≤ 2 * l then 1 else 0) = partQ a b c) := fun q l h => by rw [hO, hD]; rw [hR] at h; exact digs_end h hc
  clear hD hR hO
  have hPb := part_le (t := b) hc ha
  refine wp_at fun W0 hW0 => ?_
  have hx0 : Ext w W0 := by rw [hW0]; exact Ext.drewN (Ext.refl _) _
  have HX0 := Lib.hid hx0; clear hW0 hx0
  go_loopw [10, 11, 12] (fun x y i wr => ∃ k q l : Nat, k ≤ 41 ∧ i = .int .i64 ((k : Int) - 1) ∧ x = .int .i64 (q : Int) ∧ y = .int .i64 (l : Int) ∧ Digs a R c k q l ∧ wr = W0) (fun _ _ i _ => ((intOf i) + 1).toNat)
  case atStart => exact ⟨41, 0, 0, Nat.le_refl _, rfl, rfl, rfl, digs_start (by omega) hc, rfl⟩
  case round =>
    obtain ⟨k, q, l, hk, rfl, rfl, rfl, hd, rfl⟩ := hrel
    have hll := hd.lt
    have HD := Lib.hid hd; clear hd
    match k, hk, HD with
    | 0, hk, HD =>
      have hfin := HFIN.out q l HD.out
      by_cases hcl : c ≤ 2 * l
      · rw [if_pos hcl] at hfin
        have hci : (c : Int) ≤ 2 * (l : Int) := by omega
        go_wp2_with fail
        go_ret
        exact ⟨ret_int (by omega), HX0.out⟩
      · rw [if_neg hcl] at hfin
        have hci : ¬ (c : Int) ≤ 2 * (l : Int) := by omega
        go_wp2_with fail
        go_ret
        exact ⟨ret_int (by omega), HX0.out⟩
    | j + 1, hk, HD =>
      obtain ⟨B, hB⟩ : ∃ B, B = a / 2 ^ j % 2 := ⟨_, rfl⟩
      have hon := digs_on HD.out hc hB
      have hq := digs_q HD.out hRl
      rw [show ((j + 1 : Nat) : Int) - 1 = (j : Int) from by omega]
      have hq' := digs_q hon hRl
      have ebit : ((a : Int) / 2 ^ j).tmod 2 = (B : Int) := by
        have e1 : (a : Int) / 2 ^ j = ((a / 2 ^ j : Nat) : Int) := by simp
        rw [e1, Int.tmod_eq_emod_of_nonneg (Int.natCast_nonneg _), hB]; exact (Int.natCast_emod _ _).symm
      have hB2 : B < 2 := by rw [hB]; exact Nat.mod_lt _ (by omega)
      clear hB
      by_cases hB1 : B = 1
      · subst hB1
        rw [Nat.one_mul] at hon hq'
        have hbit : (((a : Int) / 2 ^ j).tmod 2 == 1) = true := by rw [ebit]; rfl
        have HON := Lib.hid hon
        have HQ' := Lib.hid hq'
        clear ebit hon hq' hB2
        go_wp2_with fail
        refine ⟨⟨j, 2 * q + (2 * l + R) / c, (2 * l + R) % c, by omega, rfl, ?_, ?_, HON.out, trivial⟩, by simp [intOf]⟩
        · have h := HQ'.out
          have e : (2 * (q : Int) + (2 * (l : Int) + (R : Int)) / (c : Int)) = ((2 * q + (2 * l + R) / c : Nat) : Int) := by simp
          rw [e]
          generalize 2 * q + (2 * l + R) / c = q2 at *
          rw [IntWalk.wrap64_in _ ⟨by omega, by omega⟩]
        · simp
      · obtain rfl : B = 0 := by omega
        rw [Nat.zero_mul, Nat.add_zero] at hon hq'
        have hbit : (((a : Int) / 2 ^ j).tmod 2 == 1) = false := by rw [ebit]; rfl
        have HON := Lib.hid hon
        have HQ' := Lib.hid hq'
        clear ebit hon hq' hB2
        go_wp2_with fail
        refine ⟨⟨j, 2 * q + (2 * l) / c, (2 * l) % c, by omega, rfl, ?_, ?_, HON.out, trivial⟩, by simp [intOf]⟩
        · have h := HQ'.out
          have e : (2 * (q : Int) + (2 * (l : Int)) / (c : Int)) = ((2 * q + (2 * l) / c : Nat) : Int) := by simp
          rw [e]
          generalize 2 * q + (2 * l) / c = q2 at *
          rw [IntWalk.wrap64_in _ ⟨by omega, by omega⟩]
        · simp
set_option maxRecDepth 100000 in
set_option maxHeartbeats 1600000 in
theorem rpartner_any (f t a : Int) (r : Bool) (w : World) :
    Calls Tryz.prog 85 #[.int .i64 f, .int .i64 t, .bool r, .int .i64 a] w (RetPt w f t r a) := by
  by_cases h1 : f < 1
  · go_enter Tryz.func85, Tryz.ntmps85
    go_wp2_with fail
    go_ret2
    exact retPt_bad (by omega)
  by_cases h2 : 1099511627776 < f
  · go_enter Tryz.func85, Tryz.ntmps85
    go_wp2_with fail
    go_ret2
    exact retPt_bad (by omega)
  by_cases h3 : t < 0
  · go_enter Tryz.func85, Tryz.ntmps85
    go_wp2_with fail
    go_ret2
    exact retPt_bad (by omega)
  by_cases h4 : 1099511627776 < t
  · go_enter Tryz.func85, Tryz.ntmps85
    go_wp2_with fail
    go_ret2
    exact retPt_bad (by omega)
  by_cases h5 : a < 0
  · go_enter Tryz.func85, Tryz.ntmps85
    go_wp2_with fail
    go_ret2
    exact retPt_bad (by omega)
  by_cases h6 : f < a
  · go_enter Tryz.func85, Tryz.ntmps85
    go_wp2_with fail
    go_ret2
    exact retPt_bad (by omega)
  obtain ⟨F, rfl⟩ := Int.eq_ofNat_of_zero_le (show 0 ≤ f by omega)
  obtain ⟨T, rfl⟩ := Int.eq_ofNat_of_zero_le (show 0 ≤ t by omega)
  obtain ⟨X, rfl⟩ := Int.eq_ofNat_of_zero_le (show 0 ≤ a by omega)
  have HOK : Hid (1 ≤ (F : Int) ∧ (F : Int) ≤ 1099511627776 ∧ 0 ≤ (T : Int) ∧ (T : Int) ≤ 1099511627776 ∧ 0 ≤ (X : Int) ∧ (X : Int) ≤ (F : Int)) := ⟨by omega, by omega, by omega, by omega, by omega, by omega⟩
  have hF1 : 1 ≤ F := by omega
  have hX2 : X ≤ F := by omega
  have hle2 : partQ X T F ≤ T := part_le hF1 hX2
  have HN : Hid (∀ r, partN (F : Int) (T : Int) r (X : Int) = if r = true then (T : Int) - (partQ X T F : Int) else (partQ X T F : Int)) := fun r => by unfold partN; simp
  go_enter Tryz.func85, Tryz.ntmps85
  go_wp2_with fail
  refine (share_any X T F _ hF1 (by omega) (by omega) hX2).mono ?_
  rintro e w1 ⟨rfl, he1⟩
  obtain ⟨N, hN⟩ : ∃ N, N = partQ X T F := ⟨_, rfl⟩
  rw [← hN] at hle2 HN ⊢
  have HX := Lib.hid he1; clear he1 hN
  cases r
  · go_wp2_with fail
    go_ret2
    exact retPt_ok HOK.out (by rw [HN.out]; simp) HX.out
  · go_wp2_with fail
    go_ret2
    exact retPt_ok HOK.out (by rw [HN.out]; simp) HX.out
end Go.Proofs.YtkigmpholnfkbaaGreat
/- the reference: garmentref23.Placed -/
namespace Go.Proofs.YtkigmpholnfkbaaGreat
open Go.RowKit
theorem retPd_bad {w w' : World} {p : Pc} {m x : Int} (h : plE p m = x) (hx : x ≠ 0) (he : Ext w w') : RetPd w p m (.returned (.tuple #[.slice none 0 0, .int .i64 x])) w' :=
  ⟨_, by rw [h], fun h0 => absurd (h.symm.trans h0) hx, fun _ => rfl, he⟩
set_option maxRecDepth 100000 in
set_option maxHeartbeats 3200000 in
theorem rplaced_any (a : PcA) (p : Pc) (m : Int) (w : World) (hp : PcAt w a p) (hb1 : p.es.length ≤ 1000) (hb2 : p.cs.length ≤ 1000) :
    Calls Tryz.prog 63 #[a.val, .int .i64 m] w (RetPd w p m) := by
  have HP := Lib.hid hp; clear hp
  have HG := Lib.hid (fun W (h : Ext w W) => rgraded_any a.nm a.AE a.AN a.AC a.AW a.nE a.cE a.nN a.cN a.nC a.cC a.nW a.cW a.gr m a.mt p.es p.cs W (HP.out.e.ext h) HP.out.le (HP.out.c.ext h) HP.out.lc (by rw [← HP.out.le]; exact hb1) (by rw [← HP.out.lc]; exact hb2))
  clear hb1 hb2
  obtain ⟨nm, AE, nE, cE, gr, AN, nN, cN, AC, nC, cC, AW, nW, cW, mt⟩ := a
  obtain ⟨es, cs, ws, ns⟩ := p
  simp only at HG
  have HLE : Hid (es.length = nE) := HP.out.le
  have HLN : Hid (ns.length = nN) := HP.out.ln
  have HE : Hid (EdgesAt w AE es) := HP.out.e
  have HN : Hid (SpotsAt w AN ns) := HP.out.n
  have HPE : Hid (plE ⟨es, cs, ws, ns⟩ m = if gradedR es cs m ≠ 0 then gradedR es cs m else if 16 < nN then 5 else firstE (ntE ⟨es, cs, ws, ns⟩ m) nN) := by show _ = _; rw [← HLN.out]; rfl
  have HNT : Hid (∀ i, ntE ⟨es, cs, ws, ns⟩ m i = if (gS ns i).1 < 0 ∨ (es.length : Int) ≤ (gS ns i).1 then 3 else partE (lengthN (gE es (gS ns i).1.toNat).2) (lengthN (gE (gradedE es cs m) (gS ns i).1.toNat).2) (gS ns i).2) := fun i => rfl
  have HPV : Hid (∀ i, plV ⟨es, cs, ws, ns⟩ m i = partV (lengthN (gE es (gS ns i).1.toNat).2) (lengthN (gE (gradedE es cs m) (gS ns i).1.toNat).2) false (gS ns i).2) := fun i => rfl
  have HPL : Hid (plL ⟨es, cs, ws, ns⟩ m = plTo ⟨es, cs, ws, ns⟩ m nN) := by show _ = _; rw [← HLN.out]; rfl
  obtain ⟨pc, hpc⟩ : ∃ pc, pc = (⟨es, cs, ws, ns⟩ : Pc) := ⟨_, rfl⟩
  rw [← hpc] at HPE HNT HPV HPL ⊢
  have HPG : Hid (gradedE pc.es pc.cs m = gradedE es cs m) := by show _ = _; rw [hpc]
  clear hpc
  simp only [PcA.val]
  obtain ⟨i0, hi0, hz0, hz1, hz2⟩ := info_parts int_info
  go_enter Tryz.func63, Tryz.ntmps63
  go_wp2_with fail
  refine (HG.out _ ((Ext.refl _).alloc _)).mono ?_
  rintro e w1 ⟨v1, rfl, hv, hv', he1⟩
  have HB1 : Hid (Blk 52 w1 w.heap.size [.string nm, .slice AE nE cE, .int .i64 gr, .slice AN nN cN, .slice AC nC cC, .slice AW nW cW, .bool mt]) := (Blk.new' rfl).ext he1
  have HX1 := Lib.hid (((Ext.refl w).alloc _).trans he1)
  by_cases hz : gradedR es cs m = 0
  rotate_left
  · have hvf := hv' hz
    subst hvf
    have HR : Hid (plE pc m = gradedR es cs m) := by show _ = _; rw [HPE.out, if_pos hz]
    have hzb : (gradedR es cs m != 0) = true := by simp [hz]
    obtain ⟨x, hx⟩ : ∃ x, x = gradedR es cs m := ⟨_, rfl⟩
    rw [← hx] at hz hzb HR ⊢
    have HZ := Lib.hid hz; clear hv hv' hz hx he1
    go_wp2_with fail
    go_ret2
    exact retPd_bad HR.out HZ.out HX1.out
  have hO := hv hz
  have HOE := Lib.hid (show OwnE w1 w.heap.size v1 (gradedE es cs m) from by
    obtain ⟨ps, h1, h2⟩ := hO
    refine ⟨ps, ⟨h1.1, fun k hk => ⟨(h1.2 k hk).1, own_base_le (h1.2 k hk).2 ?_⟩⟩, own_base_le h2 ?_⟩ <;> simp)
  have hGOK := (gradedR_iff es cs m).1 hz
  have HLB := Lib.hid (fun k (h : k < es.length) => ocheck_line hGOK.ok h)
  have HLG := Lib.hid (fun k (h : k < es.length) => graded_lines (cs := cs) (m := m) hz h)
  obtain ⟨A1, c1', hvf, hE1, _, _⟩ := OwnE.slice' (n := nE) hO (by rw [gradedE_len]; exact HLE.out)
  subst hvf
  have HGE := Lib.hid hE1
  rw [hz] at HPE ⊢
  clear hv hv' hz hO hE1 he1 hGOK HG
  simp only [ne_eq, not_true_eq_false, if_false] at HPE
  obtain ⟨c0, c1, c2, c3, c4, c5, c6⟩ := blk7 HB1.out
  by_cases h16 : 16 < nN
  · have HR : Hid (plE pc m = 5) := by show _ = _; rw [HPE.out, if_pos h16]
    go_wp2_with fail
    go_ret2
    exact retPd_bad HR.out (by decide) HX1.out
  rw [if_neg h16] at HPE
  go_wp2_with fail
  clear c0 c1 c2 c3 c4 c5 c6
  go_loopw [8, 9] (fun v i wr => ∃ k : Nat, k ≤ nN ∧ i = .int .i64 k ∧ firstE (ntE pc m) k = 0 ∧ OwnI wr w1.heap.size v (plTo pc m k) ∧ Ext w1 wr) (fun _ i _ => nN - (intOf i).toNat)
  case atStart => exact ⟨0, Nat.zero_le _, rfl, rfl, OwnI.nil _ _, Ext.refl _⟩
  case round =>
    obtain ⟨k, hk, rfl, ht, ho, hx⟩ := hrel
    have HT := Lib.hid ht; clear ht
    have hlk := plTo_len pc m k
    obtain ⟨LK, hLK⟩ : ∃ LK, LK = plTo pc m k := ⟨_, rfl⟩
    rw [← hLK] at ho hlk
    have HLKE := Lib.hid hLK; have HO := Lib.hid ho; have HX := Lib.hid hx; clear hLK ho hx
    have HXw := Lib.hid (HX1.out.trans HX.out)
    by_cases hlt : k < nN
    · obtain ⟨bn, on, hAN, n0, n1⟩ := (HN.out.ext HXw.out).g (k := k) (by rw [HLN.out]; exact hlt)
      subst hAN
      obtain ⟨nt, hnt⟩ : ∃ nt, nt = gS ns k := ⟨_, rfl⟩
      rw [← hnt] at n0 n1
      have hNTk := HNT.out k
      have hPVk := HPV.out k
      rw [← hnt] at hNTk hPVk
      have HNTk := Lib.hid hNTk; have HPVk := Lib.hid hPVk
      clear hnt hNTk hPVk
      obtain ⟨ed, at'⟩ := nt
      simp only at n0 n1 HNTk HPVk
      obtain ⟨c0, c1, c2, c3, c4, c5, c6⟩ := blk7 (HB1.out.ext HX.out)
      have hpl : w.heap.size < wr.heap.size := (HB1.out.ext HX.out).lt
      by_cases e0 : ed < 0
      · have HNE : Hid (ntE pc m k = 3) := by show _ = _; rw [HNTk.out, if_pos (Or.inl e0)]
        have HR : Hid (plE pc m = 3) := by show _ = _; rw [HPE.out, firstE_at hlt HT.out (by rw [HNE.out]; decide), HNE.out]
        go_wp2_with fail
        go_ret2
        exact retPd_bad HR.out (by decide) (HXw.out.alloc _)
      by_cases e1 : (nE : Int) ≤ ed
      · have HNE : Hid (ntE pc m k = 3) := by show _ = _; rw [HNTk.out, if_pos (Or.inr (by rw [HLE.out]; exact e1))]
        have HR : Hid (plE pc m = 3) := by show _ = _; rw [HPE.out, firstE_at hlt HT.out (by rw [HNE.out]; decide), HNE.out]
        go_wp2_with fail
        go_ret2
        exact retPd_bad HR.out (by decide) (HXw.out.alloc _)
      obtain ⟨D, rfl⟩ := Int.eq_ofNat_of_zero_le (show 0 ≤ ed by omega)
      have hD : D < nE := by omega
      have hDl : D < es.length := by rw [HLE.out]; exact hD
      have HNE := HNTk.out
      rw [if_neg (by rw [HLE.out]; omega), Int.toNat_natCast] at HNE
      have HPVd := HPVk.out
      rw [Int.toNat_natCast] at HPVd
      have HNEh := Lib.hid HNE; have HPVh := Lib.hid HPVd
      clear HNE HPVd HNTk HPVk
      have HXL : Hid (Ext wr (wr.alloc (.cells #[.int .i64 (D : Int), .int .i64 at'] 95))) := (Ext.refl _).alloc _
      have HZB := Lib.hid (HLB.out D hDl); have HZG := Lib.hid (HLG.out D hDl)
      obtain ⟨be, oe, L, cL, hAE, l0, l1, hSL, _, _⟩ := (HE.out.ext HXw.out).g (k := D) hDl
      subst hAE
      obtain ⟨lb, hlb⟩ : ∃ lb, lb = (gE es D).2 := ⟨_, rfl⟩
      rw [← hlb] at l1 hSL HZB HNEh HPVh
      clear hlb l0
      have hbe : be < wr.heap.size := cell_lt l1
      obtain ⟨nl, hnl⟩ : ∃ nl, nl = lb.length := ⟨_, rfl⟩
      rw [← hnl] at l1
      have HNL := Lib.hid hnl; have HSL := Lib.hid hSL; clear hnl hSL
      go_wp2_with fail
      refine (rlength_any L nl cL lb _ (HSL.out.ext HXL.out) HNL.out.symm).mono ?_
      rintro e w2 ⟨rfl, he2⟩
      rw [HZB.out]
      have HNB : Hid (Blk 95 w2 wr.heap.size [.int .i64 (D : Int), .int .i64 at']) := (Blk.new' rfl).ext he2
      have HX2 := Lib.hid ((HX.out.trans HXL.out).trans he2)
      have HXr2 := Lib.hid (HXL.out.trans he2)
      clear he2 c0 c1 c2 c3 c4 c5 c6 n0 n1 l1 hpl hbe
      obtain ⟨bg, og, LG, cG, hAG, g0, g1, hSG, _, _⟩ := (HGE.out.ext HX2.out).g (k := D) (by rw [gradedE_len]; exact hDl)
      subst hAG
      obtain ⟨lg, hlg⟩ : ∃ lg, lg = (gE (gradedE es cs m) D).2 := ⟨_, rfl⟩
      rw [← hlg] at g1 hSG HZG HNEh HPVh
      clear hlg g0
      obtain ⟨ng, hng⟩ : ∃ ng, ng = lg.length := ⟨_, rfl⟩
      rw [← hng] at g1
      have HNG := Lib.hid hng; have HSG := Lib.hid hSG; clear hng hSG
      obtain ⟨b0, b1⟩ := blk2 HNB.out
      go_wp2_with fail
      refine (rlength_any LG ng cG lg _ HSG.out HNG.out.symm).mono ?_
      rintro e w3 ⟨rfl, he3⟩
      rw [HZG.out]
      have HX3 := Lib.hid (HX2.out.trans he3)
      have HXr3 := Lib.hid (HXr2.out.trans he3)
      have HNB3 := Lib.hid (HNB.out.ext he3)
      clear he3 g1 b0 b1
      obtain ⟨b0, b1⟩ := blk2 HNB3.out
      go_wp2_with fail
      refine (rpartner_any (lengthN lb : Int) (lengthN lg : Int) at' false _).mono ?_
      rintro e w4 ⟨rfl, he4⟩
      rw [← HNEh.out, ← HPVh.out]
      have HX4 := Lib.hid (HX3.out.trans he4)
      have HXr4 := Lib.hid (HXr3.out.trans he4)
      clear he4 b0 b1
      obtain ⟨PV, hPV⟩ : ∃ PV, PV = plV pc m k := ⟨_, rfl⟩
      obtain ⟨NE, hNE⟩ : ∃ NE, NE = ntE pc m k := ⟨_, rfl⟩
      rw [← hPV, ← hNE]
      have HPVe := Lib.hid hPV; have HNEe := Lib.hid hNE
      clear hPV hNE HNEh HPVh
      by_cases hz : NE = 0
      rotate_left
      · have HR : Hid (plE pc m = NE) := by show _ = _; rw [HPE.out, firstE_at hlt HT.out (by rw [← HNEe.out]; exact hz), HNEe.out]
        have hzb : (NE != 0) = true := by simp [hz]
        have HZ := Lib.hid hz; clear hz
        go_wp2_with fail
        go_ret2
        exact retPd_bad HR.out HZ.out (HX1.out.trans HX4.out)
      subst hz
      have HT' := Lib.hid (firstE_succ (f := ntE pc m) HT.out HNEe.out.symm)
      have hbb : w1.heap.size ≤ w4.heap.size := HX4.out.size
      have H63 : Hid (LK.length + 1 ≤ maxLen) := by show _ ≤ _; unfold maxLen; omega
      have H64 : Hid ((LK.length + 1) * 8 ≤ 140737488355328) := by show _ ≤ _; omega
      have HC6 : Hid (w1.heap.size ≤ (w4.alloc (.cells #[.int .i64 PV] 3)).heap.size) := by show _ ≤ _; simp; omega
      go_wp2_with (at_builtin; refine wpList_append_own _ rfl (.tmp 85) (.tmp 87) 23 rfl w1.heap.size 3 i0 (.int .i64 0) 1 8 Tryz.underlying23 hi0 hz0 hz1 hz2 rfl (by decide) _ _ _ rfl (World.ownsRow.alloc (own_ext HO.out HXr4.out) _) ⟨w4.heap.size, 0, none⟩ 1 1 [.int .i64 PV] rfl rfl (World.news_of_block (cs := #[.int .i64 PV]) (t := 3) (fr := (0, 0)) (heap_alloc_new w4 _)) (by simp [Value.oneCell']) H63.out H64.out HC6.out ?_)
      intro v' w5 hown' hgrow _
      have hO' : OwnI w5 w1.heap.size v' (plTo pc m (k + 1)) := by
        rw [plTo_succ, ← HLKE.out, ← HPVe.out]
        unfold OwnI icells
        rw [List.length_append, List.map_append, hlk]
        exact hown'
      have hx' : Ext w1 w5 := (HX4.out.alloc _).grown hgrow (fun g hg => (World.ownsRow.lt HO.out g hg).1)
      have HO' := Lib.hid hO'; clear hO' hown' hgrow
      go_wp2_with fail
      go_roundw
      case rel => exact ⟨k + 1, by omega, by go_num, HT'.out, HO'.out, hx'⟩
      case measure => simp [intOf]; omega
    · obtain rfl : k = nN := by omega
      obtain ⟨c0, c1, c2, c3, c4, c5, c6⟩ := blk7 (HB1.out.ext HX.out)
      go_wp2_with fail
      go_ret2
      have hE0 : plE pc m = 0 := by rw [HPE.out]; exact HT.out
      refine ⟨_, by rw [hE0]; rfl, fun _ => ?_, fun h => absurd hE0 h, HXw.out⟩
      rw [HPL.out, ← HLKE.out]
      exact own_base_le HO.out HX1.out.size
end Go.Proofs.YtkigmpholnfkbaaGreat
namespace Go.Proofs.YtkigmpholnfkbaaGreat
open Go.RowKit
def wdE (ws : List Int) (n : Nat) : Int := if ws.length ≠ n then 1 else if allB (fun i => decide (0 ≤ gI ws i ∧ gI ws i ≤ 500)) ws.length = false then 3 else 0
set_option maxRecDepth 100000 in
set_option maxHeartbeats 1600000 in
theorem rwidths_any (a : PcA) (p : Pc) (w : World) (hp : PcAt w a p) :
    Calls Tryz.prog 64 #[a.val] w fun e w' => e = .returned (.int .i64 (wdE p.ws p.es.length)) ∧ Ext w w' := by
  have HP := Lib.hid hp; clear hp
  obtain ⟨nm, AE, nE, cE, gr, AN, nN, cN, AC, nC, cC, AW, nW, cW, mt⟩ := a
  have HLW : Hid (p.ws.length = nW) := HP.out.li
  have HLE : Hid (p.es.length = nE) := HP.out.le
  have HW := Lib.hid HP.out.i
  have hbW : nW ≤ 9223372036854775807 := HP.out.nw
  clear HP
  simp only [PcA.val] at HW ⊢
  have HWE : Hid (wdE p.ws p.es.length = if nW ≠ nE then 1 else if allB (fun i => decide (0 ≤ gI p.ws i ∧ gI p.ws i ≤ 500)) nW = false then 3 else 0) := by
    show _ = _; unfold wdE; rw [HLW.out, HLE.out]
  obtain ⟨WE, hWE⟩ : ∃ y, y = wdE p.ws p.es.length := ⟨_, rfl⟩
  rw [← hWE] at HWE ⊢
  clear hWE
  go_enter Tryz.func64, Tryz.ntmps64
  by_cases hwl : nW = nE
  rotate_left
  · have hwb : ((nW : Int) != (nE : Int)) = true := by simp; omega
    have hwb' : (nW != nE) = true := by simp; omega
    have HR : Hid (WE = 1) := by show _ = _; rw [HWE.out, if_pos hwl]
    clear hwl
    go_wp2_with fail
    go_ret
    exact ⟨ret_int HR.out.symm, (Ext.refl _).alloc _⟩
  have HR1 : Hid (WE = if allB (fun i => decide (0 ≤ gI p.ws i ∧ gI p.ws i ≤ 500)) nW = false then 3 else 0) := by show _ = _; rw [HWE.out, if_neg (fun h => h hwl)]
  have hwb : ((nW : Int) != (nE : Int)) = false := by simp; omega
  have hwb' : (nW != nE) = false := by simp; omega
  clear hwl HWE
  go_upto_region 4 with fail
  refine wp_at fun w1 hw1 => ?_
  have HB1 : Hid (Blk 52 w1 w.heap.size [.string nm, .slice AE nE cE, .int .i64 gr, .slice AN nN cN, .slice AC nC cC, .slice AW nW cW, .bool mt]) := by show Blk _ _ _ _; rw [hw1]; exact Blk.new' rfl
  have HX1 : Hid (Ext w w1) := by show Ext _ _; rw [hw1]; exact (Ext.refl _).alloc _
  clear hw1
  go_loopw [3] (fun i wr => ∃ m : Nat, m ≤ nW ∧ i = .int .i64 m ∧ allB (fun i => decide (0 ≤ gI p.ws i ∧ gI p.ws i ≤ 500)) m = true ∧ Ext w1 wr) (fun i _ => nW - (intOf i).toNat)
  case atStart => exact ⟨0, Nat.zero_le _, rfl, rfl, Ext.refl _⟩
  case round =>
    obtain ⟨m, hm, rfl, hall, hx⟩ := hrel
    have HALL := Lib.hid hall; have HX := Lib.hid hx; clear hall hx
    obtain ⟨c0, c1, c2, c3, c4, c5, c6⟩ := blk7 (HB1.out.ext HX.out)
    by_cases hlt : m < nW
    · obtain ⟨bw, ow, hAW, d0⟩ := (HW.out.ext (HX1.out.trans HX.out)).g (k := m) (by rw [HLW.out]; exact hlt)
      subst hAW
      obtain ⟨v, hv⟩ : ∃ v, v = gI p.ws m := ⟨_, rfl⟩
      rw [← hv] at d0
      have HV := Lib.hid hv; clear hv
      by_cases g0 : v < 0
      · have HR : Hid (WE = 3) := by show _ = _; rw [HR1.out, if_pos (allB_false hlt (by rw [← HV.out]; exact decide_eq_false (by omega)))]
        go_wp2_with fail
        go_ret
        exact ⟨ret_int HR.out.symm, HX1.out.trans HX.out⟩
      by_cases g1 : 500 < v
      · have HR : Hid (WE = 3) := by show _ = _; rw [HR1.out, if_pos (allB_false hlt (by rw [← HV.out]; exact decide_eq_false (by omega)))]
        go_wp2_with fail
        go_ret
        exact ⟨ret_int HR.out.symm, HX1.out.trans HX.out⟩
      have HD : Hid (decide (0 ≤ gI p.ws m ∧ gI p.ws m ≤ 500) = true) := by show _ = _; rw [← HV.out]; exact decide_eq_true (by omega)
      go_wp2_with fail
      go_roundw
      case rel => exact ⟨m + 1, by omega, by go_num, allB_succ HALL.out HD.out, HX.out⟩
      case measure => simp [intOf]; omega
    · obtain rfl : m = nW := by omega
      have HR : Hid (WE = 0) := by show _ = _; rw [HR1.out, if_neg (by rw [HALL.out]; simp)]
      go_wp2_with fail
      go_ret
      exact ⟨ret_int HR.out.symm, HX1.out.trans HX.out⟩
set_option maxRecDepth 100000 in
set_option maxHeartbeats 3200000 in
theorem rpiece_any (A : Option Addr) (l : List PcX) (k c : Nat) (a : PcA) (w : World) (hP : PiecesX w A (l.take k)) (hk : k < l.length) (hb : k ≤ 9223372036854775807) (hp : PcAt w a (gPx l k).p) (hn : a.nm = (gPx l k).nm) (hg : a.gr = (gPx l k).gr)
    (hb1 : (gPx l k).p.es.length ≤ 1000) (hb2 : (gPx l k).p.cs.length ≤ 1000) :
    Calls Tryz.prog 42 #[.slice A k c, a.val] w fun e w' => e = .returned (.int .i64 (pieceE l k)) ∧ Ext w w' := by
  have HP := Lib.hid hP; clear hP
  have HK := Lib.hid hk; clear hk
  have HA := Lib.hid hp; clear hp
  have HPL := Lib.hid (fun W (h : Ext w W) => rplaced_any a (gPx l k).p 0 W (HA.out.ext h) hb1 hb2)
  have HWD := Lib.hid (fun W (h : Ext w W) => rwidths_any a (gPx l k).p W (HA.out.ext h))
  have HG := Lib.hid (fun W (h : Ext w W) => rgraded_any a.nm a.AE a.AN a.AC a.AW a.nE a.cE a.nN a.cN a.nC a.cC a.nW a.cW a.gr 0 a.mt (gPx l k).p.es (gPx l k).p.cs W (HA.out.e.ext h) HA.out.le (HA.out.c.ext h) HA.out.lc (by rw [← HA.out.le]; exact hb1) (by rw [← HA.out.lc]; exact hb2))
  clear hb1 hb2
  obtain ⟨nm, AE, nE, cE, gr, AN, nN, cN, AC, nC, cC, AW, nW, cW, mt⟩ := a
  have HNM : Hid (nm = (gPx l k).nm) := hn
  have HGR : Hid (gr = (gPx l k).gr) := hg
  clear hn hg HA
  simp only [PcA.val] at HPL HG HWD ⊢
  obtain ⟨PE, hPE⟩ : ∃ PE, PE = pieceE l k := ⟨_, rfl⟩
  rw [← hPE]
  have HPE := Lib.hid hPE; clear hPE
  go_enter Tryz.func42, Tryz.ntmps42
  go_upto_region 1 with fail
  refine wp_at fun w1 hw1 => ?_
  have HB1 : Hid (Blk 52 w1 w.heap.size [.string nm, .slice AE nE cE, .int .i64 gr, .slice AN nN cN, .slice AC nC cC, .slice AW nW cW, .bool mt]) := by show Blk _ _ _ _; rw [hw1]; exact Blk.new' rfl
  have HX1 : Hid (Ext w w1) := by show Ext _ _; rw [hw1]; exact (Ext.refl w).alloc _
  clear hw1
  obtain ⟨c0, c1, c2, c3, c4, c5, c6⟩ := blk7 HB1.out
  have HNC := Lib.hid (fun W => rname_any nm W)
  cases hnb : nameB nm
  · have HR : Hid (PE = 1) := by show _ = _; rw [HPE.out, pieceE_1 (by rw [← HNM.out]; exact hnb)]
    rw [hnb] at HNC
    clear hnb
    go_wp2_with fail
    refine (HNC.out _).mono ?_
    rintro e w2 ⟨rfl, hw2⟩
    obtain rfl : w1 = w2 := hw2
    go_wp2_with fail
    go_ret
    exact ⟨ret_int HR.out.symm, HX1.out⟩
  have HNB : Hid (nameB (gPx l k).nm = true) := by show _ = _; rw [← HNM.out]; exact hnb
  rw [hnb] at HNC
  clear hnb
  by_cases hgr : gr ≠ 1 ∧ gr ≠ 2 ∧ gr ≠ 4
  · have HR : Hid (PE = 1) := by show _ = _; rw [HPE.out, pieceE_2 (by rw [← HGR.out]; exact hgr)]
    obtain ⟨g1, g2, g4⟩ := hgr
    have g1b : (gr != 1) = true := by simp [g1]
    have g2b : (gr != 2) = true := by simp [g2]
    have g4b : (gr != 4) = true := by simp [g4]
    clear g1 g2 g4
    go_wp2_with fail
    refine (HNC.out _).mono ?_
    rintro e w2 ⟨rfl, hw2⟩
    obtain rfl : w1 = w2 := hw2
    go_wp2_with fail
    go_ret
    exact ⟨ret_int HR.out.symm, HX1.out⟩
  have HR3 := Lib.hid (pieceE_3 HNB.out (by rw [← HGR.out]; exact hgr))
  rw [← HPE.out] at HR3
  have hgd : gr = 1 ∨ gr = 2 ∨ gr = 4 := by omega
  clear hgr
  go_cut [28] from 10 to 28 (fun v wc => v = .bool false ∧ wc = w1)
  case first =>
    rcases hgd with h | h | h
    · subst h
      go_wp2_with fail
      refine (HNC.out _).mono ?_
      rintro e w2 ⟨rfl, hw2⟩
      obtain rfl : w1 = w2 := hw2
      go_wp2_with fail
      go_meet
      case rel => exact ⟨rfl, rfl⟩
    · subst h
      go_wp2_with fail
      refine (HNC.out _).mono ?_
      rintro e w2 ⟨rfl, hw2⟩
      obtain rfl : w1 = w2 := hw2
      go_wp2_with fail
      go_meet
      case rel => exact ⟨rfl, rfl⟩
    · subst h
      go_wp2_with fail
      refine (HNC.out _).mono ?_
      rintro e w2 ⟨rfl, hw2⟩
      obtain rfl : w1 = w2 := hw2
      go_wp2_with fail
      go_meet
      case rel => exact ⟨rfl, rfl⟩
  case rest =>
    obtain ⟨hcv, hw⟩ := hcut
    subst hcv
    obtain rfl : w1 = wc := hw.symm
    go_wp2_with fail
    clear c0 c1 c2 c3 c4 c5 c6
    go_loopw [5] (fun i wr => ∃ j : Nat, j ≤ k ∧ i = .int .i64 j ∧ (∀ q, q < j → pdupF l k q = false) ∧ Ext w1 wr) (fun i _ => k - (intOf i).toNat)
    case atStart => exact ⟨0, Nat.zero_le _, rfl, fun j hj => absurd hj (Nat.not_lt_zero _), Ext.refl _⟩
    case round =>
      obtain ⟨j, hj, rfl, hall, hx⟩ := hrel
      have HALL := Lib.hid hall; have HX := Lib.hid hx; clear hall hx
      obtain ⟨c0, c1, c2, c3, c4, c5, c6⟩ := blk7 (HB1.out.ext HX.out)
      by_cases hlt : j < k
      · obtain ⟨bp, op, q, hAP, hpA, hcA, hqn, hqg⟩ := (HP.out.ext (HX1.out.trans HX.out)) j (by rw [List.length_take]; have := HK.out; omega)
        subst hAP
        clear hpA hqg
        rw [gPx_take hlt (Nat.le_of_lt HK.out)] at hqn
        have a0 := hcA.c0
        obtain ⟨pnm, hpnm⟩ : ∃ y, y = q.nm := ⟨_, rfl⟩
        rw [← hpnm] at a0 hqn
        have HQN := Lib.hid hqn; clear hqn hpnm hcA
        cases heq : (pnm.toList == nm.toList)
        · have HD : Hid (pdupF l k j = false) := by show _ = _; unfold pdupF; rw [← HQN.out, ← HNM.out, ← str_eq]; exact heq
          go_wp2_with fail
          go_quiet (fail)
          go_wp2_with fail
          go_roundw
          case rel => exact ⟨j + 1, by omega, by go_num, fun q hq => by
            rcases Nat.lt_succ_iff_lt_or_eq.1 hq with h | h
            · exact HALL.out q h
            · subst h; exact HD.out, HX.out.drewN _⟩
          case measure => simp [intOf]; omega
        · have HD : Hid (pdupF l k j = true) := by show _ = _; unfold pdupF; rw [← HQN.out, ← HNM.out, ← str_eq]; exact heq
          have HR : Hid (PE = 7) := by show _ = _; rw [HR3.out, if_pos (any_at hlt HD.out)]
          go_wp2_with fail
          go_quiet (fail)
          go_wp2_with fail
          go_ret
          exact ⟨ret_int HR.out.symm, HX1.out.trans (HX.out.drewN _)⟩
      obtain rfl : j = k := by omega
      have HR4 : Hid (PE = pE2 l j) := by show _ = _; rw [HR3.out, if_neg (by rw [any_none HALL.out]; simp)]
      clear HALL HR3
      obtain ⟨W1, hW1⟩ : ∃ W1 : World, W1 = wr := ⟨_, rfl⟩
      rw [← hW1] at c0 c1 c2 c3 c4 c5 c6 HX ⊢
      clear hW1
      have HXW := Lib.hid (HX1.out.trans HX.out)
      have HBW := Lib.hid (HB1.out.ext HX.out)
      obtain ⟨GR, hGR⟩ : ∃ GR, GR = gradedR (gPx l j).p.es (gPx l j).p.cs 0 := ⟨_, rfl⟩
      have HGC := Lib.hid (HG.out W1 HXW.out)
      have HGE := Lib.hid hGR
      go_wp2_with fail
      refine HGC.out.mono ?_
      rintro e w2 ⟨v1, rfl, hv, hv', he2⟩
      rw [← hGR] at hv hv' ⊢
      have HX2 := Lib.hid (HXW.out.trans he2)
      have HB2 := Lib.hid (HBW.out.ext he2)
      clear he2 hv hv' hGR HGC
      clear c0 c1 c2 c3 c4 c5 c6
      obtain ⟨c0, c1, c2, c3, c4, c5, c6⟩ := blk7 HB2.out
      by_cases hz : GR = 0
      rotate_left
      · have hzb : (GR != 0) = true := by simp [hz]
        have HR : Hid (PE = GR) := by show _ = _; rw [HR4.out]; unfold pE2; rw [if_pos (by rw [← HGE.out]; exact hz), HGE.out]
        clear hz
        go_wp2_with fail
        go_ret
        exact ⟨ret_int HR.out.symm, HX2.out⟩
      subst hz
      obtain ⟨PL, hPL⟩ : ∃ PL, PL = plE (gPx l j).p 0 := ⟨_, rfl⟩
      have HPC := Lib.hid (HPL.out w2 HX2.out)
      have HPLE := Lib.hid hPL
      go_wp2_with fail
      refine HPC.out.mono ?_
      rintro e w3 ⟨v2, rfl, _, _, he3⟩
      rw [← hPL]
      have HX3 := Lib.hid (HX2.out.trans he3)
      have HB3 := Lib.hid (HB2.out.ext he3)
      clear he3 hPL HPC
      clear c0 c1 c2 c3 c4 c5 c6
      obtain ⟨c0, c1, c2, c3, c4, c5, c6⟩ := blk7 HB3.out
      by_cases hz : PL = 0
      rotate_left
      · have hzb : (PL != 0) = true := by simp [hz]
        have HR : Hid (PE = PL) := by show _ = _; rw [HR4.out]; unfold pE2; rw [if_neg (by rw [← HGE.out]; simp), if_pos (by rw [← HPLE.out]; exact hz), HPLE.out]
        clear hz
        go_wp2_with fail
        go_ret
        exact ⟨ret_int HR.out.symm, HX3.out⟩
      subst hz
      have HR5 : Hid (PE = wdE (gPx l j).p.ws (gPx l j).p.es.length) := by
        show _ = _; rw [HR4.out]; unfold pE2; rw [if_neg (by rw [← HGE.out]; simp), if_neg (by rw [← HPLE.out]; simp)]; rfl
      have HWC := Lib.hid (HWD.out w3 HX3.out)
      rw [← HR5.out] at HWC
      go_wp2_with fail
      refine HWC.out.mono ?_
      rintro e w4 ⟨rfl, he4⟩
      have HX4 := Lib.hid (HX3.out.trans he4)
      clear he4 c0 c1 c2 c3 c4 c5 c6
      go_wp2_with fail
      go_ret
      exact ⟨rfl, HX4.out⟩
end Go.Proofs.YtkigmpholnfkbaaGreat
