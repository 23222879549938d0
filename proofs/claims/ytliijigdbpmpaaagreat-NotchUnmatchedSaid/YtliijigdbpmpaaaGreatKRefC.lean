/- the reference: garmentref10.Root -/
import Derived.Test.YtliijigdbpmpaaaGreatKRefB
namespace Go.Proofs.YtliijigdbpmpaaaGreat
open Go.RowKit
set_option maxRecDepth 100000 in
set_option maxHeartbeats 1600000 in
theorem rroot_any (n : Nat) (w : World) (hn : n < 9223372036854775808) :
    Calls Tryz.prog 76 #[.int .i64 n] w fun e w' => e = .returned (.int .i64 (rootN n)) ∧ w = w' := by
  have hr := rootN_is n (by omega)
  have HRR := Lib.hid hr; clear hr
  go_enter Tryz.func76, Tryz.ntmps76
  go_wp2_with fail
  go_loop [3, 4] (fun o k => ∃ o' j : Nat, o = .int .i64 o' ∧ k = .int .i64 ((j : Int) - 1) ∧ j ≤ 32 ∧ o' * o' ≤ n ∧ n < (o' + 2 ^ j) * (o' + 2 ^ j) ∧ o' + 2 ^ j ≤ 4294967296) (fun _ k => (intOf k + 1).toNat)
  case atStart => exact ⟨0, 32, rfl, rfl, by omega, by omega, by simp; omega, by simp⟩
  case round =>
    obtain ⟨o, j, rfl, rfl, hj, h0, h1, h2⟩ := hrel
    have H0 := Lib.hid h0; have H1 := Lib.hid h1
    clear h0 h1
    cases j with
    | zero =>
      go_wp2_with fail
      go_ret
      exact ⟨ret_int (by rw [root_one HRR.out.1 HRR.out.2 H0.out (by simpa using H1.out)]), rfl⟩
    | succ i =>
      obtain ⟨p, hp⟩ : ∃ p : Nat, p = 2 ^ i := ⟨_, rfl⟩
      have hp2 : 2 ^ (i + 1) = 2 * p := by rw [hp, Nat.pow_succ]; omega
      rw [hp2] at h2 H1
      have hpi : (2 : Int) ^ i = (p : Int) := by rw [hp]; simp
      have hp0 : 0 < p := by rw [hp]; exact Nat.pow_pos (by omega)
      have HPP := Lib.hid hp
      clear hp hp2
      have hki : (((i + 1 : Nat) : Int) - 1) = i := by omega
      rw [hki]
      clear hki
      have hi31 : i ≤ 31 := by omega
      have hm0 : ((i : Int) % 18446744073709551616) = i := by omega
      have hm1 : (((o : Int) + p) % 18446744073709551616) = (o : Int) + p := by omega
      have hm2 : ((n : Int) % 18446744073709551616) = n := by omega
      have hsq : (o + p) * (o + p) < 18446744073709551616 := by
        have := Nat.mul_le_mul (show o + p ≤ 4294967295 by omega) (show o + p ≤ 4294967295 by omega)
        omega
      have hsqi : ((((o : Int) + p) * ((o : Int) + p)) % 18446744073709551616) = ((o : Int) + p) * ((o : Int) + p) := by
        have e : (((o : Int) + p) * ((o : Int) + p)) = (((o + p) * (o + p) : Nat) : Int) := by simp
        rw [e]; omega
      have HSQ := Lib.hid hsq; clear hsq
      by_cases hc : (o + p) * (o + p) ≤ n
      · have hci : ((o : Int) + p) * ((o : Int) + p) ≤ n := by
          have e : (((o : Int) + p) * ((o : Int) + p)) = (((o + p) * (o + p) : Nat) : Int) := by simp
          rw [e]; omega
        have HC := Lib.hid hc; clear hc
        go_wp2_with fail
        refine ⟨⟨o + p, i, by simp, rfl, by omega, HC.out, ?_, ?_⟩, by simp [intOf]⟩
        · have h := H1.out
          rw [show o + 2 * p = o + p + p from by omega] at h
          rw [← HPP.out]; exact h
        · rw [← HPP.out]; omega
      · have hci : ¬ ((o : Int) + p) * ((o : Int) + p) ≤ n := by
          have e : (((o : Int) + p) * ((o : Int) + p)) = (((o + p) * (o + p) : Nat) : Int) := by simp
          rw [e]; omega
        have HC := Lib.hid hc; clear hc
        go_wp2_with fail
        refine ⟨⟨o, i, rfl, rfl, by omega, H0.out, ?_, ?_⟩, by simp [intOf]⟩
        · rw [← HPP.out]; have := HC.out; omega
        · rw [← HPP.out]; omega
theorem rroot_int (n : Int) (w : World) (h0 : 0 ≤ n) (h1 : n < 9223372036854775808) :
    Calls Tryz.prog 76 #[.int .i64 n] w fun e w' => e = .returned (.int .i64 (rootN n.toNat)) ∧ w = w' := by
  have h := rroot_any n.toNat w (by omega)
  rwa [Int.toNat_of_nonneg h0] at h
set_option maxHeartbeats 800000 in
theorem rsegment_any (p q : Spot) (w : World) (hp : inB p) (hq : inB q) :
    Calls Tryz.prog 61 #[SV p, SV q] w fun e w' => e = .returned (.int .i64 (seg p q)) ∧ Ext w w' := by
  obtain ⟨px, py⟩ := p; obtain ⟨qx, qy⟩ := q
  obtain ⟨p1, p2, p3, p4⟩ := hp; obtain ⟨q1, q2, q3, q4⟩ := hq
  have hs : ((sqN (px, py) (qx, qy) : Nat) : Int) = (qx - px) * (qx - px) + (qy - py) * (qy - py) := by
    have h1 := (sq_bound (d := qx - px) (by omega) (by omega)).1
    have h2 := (sq_bound (d := qy - py) (by omega) (by omega)).1
    unfold sqN; exact Int.toNat_of_nonneg (by simp only; omega)
  have h1 := sq_bound (d := qx - px) (by omega) (by omega)
  have h2 := sq_bound (d := qy - py) (by omega) (by omega)
  simp only at p1 p2 p3 p4 q1 q2 q3 q4
  go_enter Tryz.func61, Tryz.ntmps61
  go_wp2_with fail
  go_quiet (fail)
  go_wp2_with fail
  refine (rroot_int _ _ (by omega) (by omega)).mono ?_
  rintro e w1 ⟨rfl, rfl⟩
  go_wp2_with fail
  go_ret
  refine ⟨ret_int ?_, (((Ext.refl _).alloc _).alloc _).drewN _⟩
  unfold seg
  congr 2
  omega
set_option maxHeartbeats 1600000 in
theorem rtotal_any (A : Option Addr) (n c : Nat) (l : List Spot) (w : World) (ha : SpotsAt w A l) (hl : l.length = n) (h1n : 1 ≤ n) (h40 : n ≤ 40) (hin : ∀ k, k < l.length → inB (gS l k)) :
    Calls Tryz.prog 36 #[.slice A n c] w fun e w' => e = .returned (.int .i64 (lenTo l (n - 1))) ∧ Ext w w' := by
  have HL := Lib.hid hl; clear hl
  have HA := Lib.hid ha; clear ha
  have HIN := Lib.hid hin; clear hin
  go_enter Tryz.func36, Tryz.ntmps36
  go_wp2_with fail
  go_loopw [3, 4] (fun s i wr => ∃ k : Nat, k + 1 ≤ n ∧ i = .int .i64 ((k : Int) + 1) ∧ s = .int .i64 (lenTo l k) ∧ Ext w wr) (fun _ i _ => n - (intOf i).toNat)
  case atStart => exact ⟨0, h1n, rfl, rfl, Ext.refl _⟩
  case round =>
    obtain ⟨k, hk, rfl, rfl, hx⟩ := hrel
    by_cases hlt : k + 1 < n
    · have hb := lenTo_le HIN.out k (by rw [HL.out]; omega)
      have hg := seg_le (HIN.out k (by rw [HL.out]; omega)) (HIN.out (k + 1) (by rw [HL.out]; omega))
      have hgh := Lib.hid (HIN.out k (by rw [HL.out]; omega)); have hgi := Lib.hid (HIN.out (k + 1) (by rw [HL.out]; omega))
      obtain ⟨b, off, rfl, hc0, hc1⟩ := (HA.out.ext hx).g (k := k) (by rw [HL.out]; omega)
      obtain ⟨hd0, hd1⟩ := (HA.out.ext hx).at1 (k := k + 1) (by rw [HL.out]; omega)
      have hs1 : IntKind.i64.wrap ((k : Int) + 1 - 1) = k := (IntWalk.i64_in _ (by omega)).trans (by omega)
      have hs1' : IntKind.i64.wrap (k : Int) = k := IntWalk.i64_in _ (by omega)
      have hs2 : ((k : Int) + 1).toNat = k + 1 := by omega
      have hs3 : (k : Int) + 1 < n := by omega
      have hs3' : (k : Int) < n := by omega
      have hs4 : 0 ≤ (k : Int) + 1 := by omega
      have hs5 : IntKind.i64.wrap ((lenTo l k : Int) + seg (gS l k) (gS l (k + 1))) = (lenTo l k : Int) + seg (gS l k) (gS l (k + 1)) := IntWalk.i64_in _ (by omega)
      go_wp2_with fail
      have d0 := fun z : After wr => After.cell hc0 z
      have d1 := fun z : After wr => After.cell hc1 z
      have d2 := fun z : After wr => After.cell hd0 z
      have d3 := fun z : After wr => After.cell hd1 z
      refine region_ext (by kernel_rfl) (by kernel_rfl) ?_
      repeat (go_big_quiet_step (
        (go_at_call 61; exact after_call (rsegment_any (gS l k) (gS l (k + 1)) _ hgh.out hgi.out))))
      refine wpQuiet_nil ?_
      rintro w1 ⟨⟨_, he⟩, rfl⟩
      clear hs1 hs2 hs4
      go_wp2_with fail
      go_roundw
      case rel => exact ⟨k + 1, by omega, by go_num, by simp [lenTo], hx.trans he⟩
      case measure => simp [intOf]; omega
    · have hlt' : ¬ (k : Int) + 1 < n := by omega
      have hkn : k = n - 1 := by omega
      go_wp2_with fail
      go_ret
      exact ⟨rfl, hx⟩
set_option maxHeartbeats 800000 in
theorem rlength_any (A : Option Addr) (n c : Nat) (l : List Spot) (w : World) (ha : SpotsAt w A l) (hl : l.length = n) :
    Calls Tryz.prog 21 #[.slice A n c] w fun e w' => e = .returned (.tuple #[.int .i64 (lengthN l), .int .i64 (lcheck l)]) ∧ Ext w w' := by
  have HL := Lib.hid hl; clear hl
  have HA := Lib.hid ha; clear ha
  go_enter Tryz.func21, Tryz.ntmps21
  go_wp2_with fail
  refine (rcheck_any A n c l w HA.out HL.out).mono ?_
  rintro e w1 ⟨rfl, hx⟩
  by_cases hz : lcheck l = 0
  · obtain ⟨h2, h40, hin⟩ := lcheck_zero hz
    rw [HL.out] at h2 h40
    have HIN := Lib.hid hin; clear hin
    have HZ := Lib.hid hz
    rw [hz]
    clear hz
    go_wp2_with fail
    refine (rtotal_any A n c l _ (HA.out.ext hx) HL.out (by omega) h40 HIN.out).mono ?_
    rintro e w2 ⟨rfl, he2⟩
    go_wp2_with fail
    go_ret2
    exact ⟨by unfold lengthN; rw [HZ.out, if_neg (by simp), HL.out]; rfl, hx.trans he2⟩
  · have hd : (lcheck l != 0) = true := by simp [hz]
    have HZ := Lib.hid hz; clear hz
    go_wp2_with fail
    go_ret2
    exact ⟨by unfold lengthN; rw [if_pos HZ.out]; rfl, hx⟩
end Go.Proofs.YtliijigdbpmpaaaGreat
