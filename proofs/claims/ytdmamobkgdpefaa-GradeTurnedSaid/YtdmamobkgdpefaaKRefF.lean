/- the reference: garmentref21.flipped -/
import Derived.Test.YtdmamobkgdpefaaKMirr
/- the reference: garmentref10.far, Far, Check -/
namespace Go.Proofs.Ytdmamobkgdpefaa
open Go.RowKit
def farB (n : Int) : Bool := decide (1048576 < n) || decide (n < -1048576)
theorem far_any (n : Int) (w : World) : Calls Try.prog 89 #[.int .i64 n] w fun e w' => e = .returned (.bool (farB n)) ∧ w = w' := by
  by_cases h1 : 1048576 < n
  · go_enter Try.func89, Try.ntmps89
    go_wp2
    go_ret
    exact ⟨ret_bool (by simp [farB, h1]), rfl⟩
  · by_cases h2 : n < -1048576
    · go_enter Try.func89, Try.ntmps89
      go_wp2
      go_ret
      exact ⟨ret_bool (by simp [farB, h2]), rfl⟩
    · go_enter Try.func89, Try.ntmps89
      go_wp2
      go_ret
      exact ⟨ret_bool (by simp [farB, h1, h2]), rfl⟩
theorem outB_far (s : Spot) : outB s = (farB s.1 || farB s.2) := by
  unfold outB farB
  rw [Bool.eq_iff_iff]
  simp only [decide_eq_true_eq, Bool.or_eq_true]
  omega
theorem any_take_succ2 {l : List Spot} {k : Nat} (h : k < l.length) : (l.take (k + 1)).any outB = ((l.take k).any outB || outB (gS l k)) := by
  rw [take_succ _ _ h, List.any_append, gS_eq h]; simp
theorem any_of_get {l : List Spot} {k : Nat} (h : k < l.length) (ho : outB (gS l k) = true) : l.any outB = true := by
  rw [gS_eq h] at ho
  exact List.any_eq_true.2 ⟨_, List.getElem_mem h, ho⟩
set_option maxHeartbeats 800000 in
theorem farl_any (A : Option Addr) (n c : Nat) (l : List Spot) (w : World) (ha : SpotsAt w A l) (hl : l.length = n) (hn : n ≤ 1000000) :
    Calls Try.prog 82 #[.slice A n c] w fun e w' => e = .returned (.bool (l.any outB)) ∧ w = w' := by
  have HL := Lib.hid hl; clear hl
  have HA := Lib.hid ha; clear ha
  go_enter Try.func82, Try.ntmps82
  go_wp2_with fail
  go_loopw [3] (fun i wr => ∃ k : Nat, k ≤ n ∧ i = .int .i64 k ∧ (l.take k).any outB = false ∧ wr = w) (fun i _ => n - (intOf i).toNat)
  case atStart => exact ⟨0, Nat.zero_le _, rfl, rfl, rfl⟩
  case round =>
    obtain ⟨k, hk, rfl, ht, rfl⟩ := hrel
    have HT := Lib.hid ht; clear ht
    by_cases hlt : k < n
    · have hkl : k < l.length := by rw [HL.out]; exact hlt
      obtain ⟨b, off, rfl, hc0, hc1⟩ := HA.out.g hkl
      have HO := Lib.hid (outB_far (gS l k))
      go_wp2_with fail
      refine (far_any _ _).mono ?_
      rintro e w1 ⟨rfl, rfl⟩
      cases hp : farB (gS l k).1
      · have HP := Lib.hid hp; clear hp
        go_wp2_with fail
        refine (far_any _ _).mono ?_
        rintro e w1 ⟨rfl, rfl⟩
        cases hq : farB (gS l k).2
        · have HQ := Lib.hid hq; clear hq
          go_wp2_with fail
          go_roundw
          case rel => exact ⟨k + 1, by omega, by go_num, by rw [any_take_succ2 hkl, HT.out, HO.out, HP.out, HQ.out]; rfl, trivial⟩
          case measure => simp [intOf]; omega
        · have HQ := Lib.hid hq; clear hq
          go_wp2_with fail
          go_ret
          exact ⟨ret_bool (by rw [any_of_get hkl (by rw [HO.out, HP.out, HQ.out]; rfl)]), rfl⟩
      · have HP := Lib.hid hp; clear hp
        go_wp2_with fail
        go_ret
        exact ⟨ret_bool (by rw [any_of_get hkl (by rw [HO.out, HP.out]; rfl)]), rfl⟩
    · go_wp2_with fail
      go_ret
      refine ⟨ret_bool ?_, rfl⟩
      have h := HT.out
      rw [List.take_of_length_le (by rw [HL.out]; omega)] at h
      exact h.symm
set_option maxHeartbeats 1600000 in
theorem rcheck_any (A : Option Addr) (n c : Nat) (l : List Spot) (w : World) (ha : SpotsAt w A l) (hl : l.length = n) :
    Calls Try.prog 73 #[.slice A n c] w fun e w' => e = .returned (.int .i64 (lcheck l)) ∧ Ext w w' := by
  have HL := Lib.hid hl; clear hl
  have HA := Lib.hid ha; clear ha
  by_cases h40 : 40 < n
  · go_enter Try.func73, Try.ntmps73
    go_wp2_with fail
    go_ret
    exact ⟨ret_int (by unfold lcheck; rw [HL.out, if_pos h40]), Ext.refl _⟩
  by_cases h2 : n < 2
  · go_enter Try.func73, Try.ntmps73
    go_wp2_with fail
    go_ret
    exact ⟨ret_int (by unfold lcheck; rw [HL.out, if_neg h40, if_pos h2]), Ext.refl _⟩
  go_enter Try.func73, Try.ntmps73
  go_wp2_with fail
  refine (farl_any A n c l w HA.out HL.out (by omega)).mono ?_
  rintro e w1 ⟨rfl, rfl⟩
  cases ho : l.any outB
  rotate_left
  · have HO := Lib.hid ho; clear ho
    go_wp2_with fail
    go_ret
    exact ⟨ret_int (by unfold lcheck; rw [HL.out, if_neg h40, if_neg h2, if_pos HO.out]), Ext.refl _⟩
  have HO := Lib.hid ho; clear ho
  go_wp2_with fail
  go_loopw [3] (fun i wr => ∃ k : Nat, 1 ≤ k ∧ k ≤ n ∧ i = .int .i64 k ∧ allB (stepF l) (k - 1) = true ∧ ∃ q, wr = w.drewN q) (fun i _ => n - (intOf i).toNat)
  case atStart => exact ⟨1, by omega, by omega, rfl, rfl, 0, rfl⟩
  case round =>
    obtain ⟨k, hk1, hk, rfl, ht, q, rfl⟩ := hrel
    have HT := Lib.hid ht; clear ht
    by_cases hlt : k < n
    · obtain ⟨b, off, rfl, hc0, hc1⟩ := HA.out.g (k := k) (by rw [HL.out]; exact hlt)
      obtain ⟨hd0, hd1⟩ := HA.out.at1 (k := k - 1) (by rw [HL.out]; omega)
      obtain ⟨j, rfl⟩ : ∃ j, k = j + 1 := ⟨k - 1, by omega⟩
      rw [Nat.add_sub_cancel] at hd0 hd1 HT
      have hw1 : IntKind.i64.wrap (((j + 1 : Nat) : Int) - 1) = j := IntWalk.i64_in _ (by omega) |>.trans (by omega)
      have hlt' : (j : Int) < n := by omega
      have hlt'' : (j : Int) + 1 < n := by omega
      by_cases heq : gS l (j + 1) = gS l j
      · have hq : eqS (gS l (j + 1)).1 (gS l (j + 1)).2 (gS l j).1 (gS l j).2 = true := (eqS_iff _ _).2 heq
        have HE := Lib.hid heq; clear heq
        go_wp2_with fail
        go_quiet (fail)
        go_wp2_with fail
        go_ret
        refine ⟨ret_int ?_, Ext.drewN (Ext.drewN (Ext.refl _) _) _⟩
        unfold lcheck
        rw [HL.out, if_neg h40, if_neg h2, if_neg (by rw [HO.out]; decide), if_neg]
        rw [allB_false (k := j) (by omega) (by unfold stepF; simp [HE.out])]; decide
      · have hq : eqS (gS l (j + 1)).1 (gS l (j + 1)).2 (gS l j).1 (gS l j).2 = false := by rw [Bool.eq_false_iff]; intro h; exact heq ((eqS_iff _ _).1 h)
        have HE := Lib.hid heq; clear heq
        go_wp2_with fail
        go_quiet (fail)
        go_wp2_with fail
        go_roundw
        case rel => exact ⟨j + 1 + 1, by omega, by omega, by go_num, by rw [Nat.add_sub_cancel]; exact allB_succ HT.out (by unfold stepF; rw [decide_eq_false (fun h => HE.out h.symm)]; rfl), _, rfl⟩
        case measure => simp [intOf]; omega
    · obtain rfl : k = n := by omega
      go_wp2_with fail
      go_ret
      refine ⟨ret_int ?_, Ext.drewN (Ext.refl _) _⟩
      unfold lcheck
      rw [HL.out, if_neg h40, if_neg h2, if_neg (by rw [HO.out]; decide), if_pos HT.out]
end Go.Proofs.Ytdmamobkgdpefaa
/- the reference: garmentref10.Root -/
namespace Go.Proofs.Ytdmamobkgdpefaa
open Go.RowKit
set_option maxRecDepth 100000 in
set_option maxHeartbeats 1600000 in
theorem rroot_any (n : Nat) (w : World) (hn : n < 9223372036854775808) :
    Calls Try.prog 90 #[.int .i64 n] w fun e w' => e = .returned (.int .i64 (rootN n)) ∧ w = w' := by
  have hr := rootN_is n (by omega)
  have HRR := Lib.hid hr; clear hr
  go_enter Try.func90, Try.ntmps90
  go_wp2_with fail
  go_loop [3, 4] (fun o k => ∃ o' j : Nat, o = .int .i64 o' ∧ k = .int .i64 ((j : Int) - 1) ∧ j ≤ 32 ∧ o' * o' ≤ n ∧ n < (o' + 2 ^ j) * (o' + 2 ^ j) ∧ o' + 2 ^ j ≤ 4294967296) (fun _ k => (intOf k + 1).toNat)
  case atStart => exact ⟨0, 32, rfl, rfl, by omega, by omega, by simp; omega, by simp⟩
  case round =>
    obtain ⟨o, j, rfl, rfl, hj, h0, h1, h2⟩ := hrel
    have H0 := Lib.hid h0; have H1 := Lib.hid h1
    clear h0 h1
    cases j with
    | zero =>
      go_wp2_with fail
      go_ret
      exact ⟨ret_int (by rw [root_one HRR.out.1 HRR.out.2 H0.out (by simpa using H1.out)]), rfl⟩
    | succ i =>
      obtain ⟨p, hp⟩ : ∃ p : Nat, p = 2 ^ i := ⟨_, rfl⟩
      have hp2 : 2 ^ (i + 1) = 2 * p := by rw [hp, Nat.pow_succ]; omega
      rw [hp2] at h2 H1
      have hpi : (2 : Int) ^ i = (p : Int) := by rw [hp]; simp
      have hp0 : 0 < p := by rw [hp]; exact Nat.pow_pos (by omega)
      have HPP := Lib.hid hp
      clear hp hp2
      have hki : (((i + 1 : Nat) : Int) - 1) = i := by omega
      rw [hki]
      clear hki
      have hi31 : i ≤ 31 := by omega
      have hm0 : ((i : Int) % 18446744073709551616) = i := by omega
      have hm1 : (((o : Int) + p) % 18446744073709551616) = (o : Int) + p := by omega
      have hm2 : ((n : Int) % 18446744073709551616) = n := by omega
      have hsq : (o + p) * (o + p) < 18446744073709551616 := by
        have := Nat.mul_le_mul (show o + p ≤ 4294967295 by omega) (show o + p ≤ 4294967295 by omega)
        omega
      have hsqi : ((((o : Int) + p) * ((o : Int) + p)) % 18446744073709551616) = ((o : Int) + p) * ((o : Int) + p) := by
        have e : (((o : Int) + p) * ((o : Int) + p)) = (((o + p) * (o + p) : Nat) : Int) := by simp
        rw [e]; omega
      have HSQ := Lib.hid hsq; clear hsq
      by_cases hc : (o + p) * (o + p) ≤ n
      · have hci : ((o : Int) + p) * ((o : Int) + p) ≤ n := by
          have e : (((o : Int) + p) * ((o : Int) + p)) = (((o + p) * (o + p) : Nat) : Int) := by simp
          rw [e]; omega
        have HC := Lib.hid hc; clear hc
        go_wp2_with fail
        refine ⟨⟨o + p, i, by simp, rfl, by omega, HC.out, ?_, ?_⟩, by simp [intOf]⟩
        · have h := H1.out
          rw [show o + 2 * p = o + p + p from by omega] at h
          rw [← HPP.out]; exact h
        · rw [← HPP.out]; omega
      · have hci : ¬ ((o : Int) + p) * ((o : Int) + p) ≤ n := by
          have e : (((o : Int) + p) * ((o : Int) + p)) = (((o + p) * (o + p) : Nat) : Int) := by simp
          rw [e]; omega
        have HC := Lib.hid hc; clear hc
        go_wp2_with fail
        refine ⟨⟨o, i, rfl, rfl, by omega, H0.out, ?_, ?_⟩, by simp [intOf]⟩
        · rw [← HPP.out]; have := HC.out; omega
        · rw [← HPP.out]; omega
theorem rroot_int (n : Int) (w : World) (h0 : 0 ≤ n) (h1 : n < 9223372036854775808) :
    Calls Try.prog 90 #[.int .i64 n] w fun e w' => e = .returned (.int .i64 (rootN n.toNat)) ∧ w = w' := by
  have h := rroot_any n.toNat w (by omega)
  rwa [Int.toNat_of_nonneg h0] at h
set_option maxHeartbeats 800000 in
theorem rsegment_any (p q : Spot) (w : World) (hp : inB p) (hq : inB q) :
    Calls Try.prog 83 #[SV p, SV q] w fun e w' => e = .returned (.int .i64 (seg p q)) ∧ Ext w w' := by
  obtain ⟨px, py⟩ := p; obtain ⟨qx, qy⟩ := q
  obtain ⟨p1, p2, p3, p4⟩ := hp; obtain ⟨q1, q2, q3, q4⟩ := hq
  have hs : ((sqN (px, py) (qx, qy) : Nat) : Int) = (qx - px) * (qx - px) + (qy - py) * (qy - py) := by
    have h1 := (sq_bound (d := qx - px) (by omega) (by omega)).1
    have h2 := (sq_bound (d := qy - py) (by omega) (by omega)).1
    unfold sqN; exact Int.toNat_of_nonneg (by simp only; omega)
  have h1 := sq_bound (d := qx - px) (by omega) (by omega)
  have h2 := sq_bound (d := qy - py) (by omega) (by omega)
  simp only at p1 p2 p3 p4 q1 q2 q3 q4
  go_enter Try.func83, Try.ntmps83
  go_wp2_with fail
  go_quiet (fail)
  go_wp2_with fail
  refine (rroot_int _ _ (by omega) (by omega)).mono ?_
  rintro e w1 ⟨rfl, rfl⟩
  go_wp2_with fail
  go_ret
  refine ⟨ret_int ?_, (((Ext.refl _).alloc _).alloc _).drewN _⟩
  unfold seg
  congr 2
  omega
set_option maxHeartbeats 1600000 in
theorem rtotal_any (A : Option Addr) (n c : Nat) (l : List Spot) (w : World) (ha : SpotsAt w A l) (hl : l.length = n) (h1n : 1 ≤ n) (h40 : n ≤ 40) (hin : ∀ k, k < l.length → inB (gS l k)) :
    Calls Try.prog 74 #[.slice A n c] w fun e w' => e = .returned (.int .i64 (lenTo l (n - 1))) ∧ Ext w w' := by
  have HL := Lib.hid hl; clear hl
  have HA := Lib.hid ha; clear ha
  have HIN := Lib.hid hin; clear hin
  go_enter Try.func74, Try.ntmps74
  go_wp2_with fail
  go_loopw [3, 4] (fun s i wr => ∃ k : Nat, k + 1 ≤ n ∧ i = .int .i64 ((k : Int) + 1) ∧ s = .int .i64 (lenTo l k) ∧ Ext w wr) (fun _ i _ => n - (intOf i).toNat)
  case atStart => exact ⟨0, h1n, rfl, rfl, Ext.refl _⟩
  case round =>
    obtain ⟨k, hk, rfl, rfl, hx⟩ := hrel
    by_cases hlt : k + 1 < n
    · have hb := lenTo_le HIN.out k (by rw [HL.out]; omega)
      have hg := seg_le (HIN.out k (by rw [HL.out]; omega)) (HIN.out (k + 1) (by rw [HL.out]; omega))
      have hgh := Lib.hid (HIN.out k (by rw [HL.out]; omega)); have hgi := Lib.hid (HIN.out (k + 1) (by rw [HL.out]; omega))
      obtain ⟨b, off, rfl, hc0, hc1⟩ := (HA.out.ext hx).g (k := k) (by rw [HL.out]; omega)
      obtain ⟨hd0, hd1⟩ := (HA.out.ext hx).at1 (k := k + 1) (by rw [HL.out]; omega)
      have hs1 : IntKind.i64.wrap ((k : Int) + 1 - 1) = k := (IntWalk.i64_in _ (by omega)).trans (by omega)
      have hs1' : IntKind.i64.wrap (k : Int) = k := IntWalk.i64_in _ (by omega)
      have hs2 : ((k : Int) + 1).toNat = k + 1 := by omega
      have hs3 : (k : Int) + 1 < n := by omega
      have hs3' : (k : Int) < n := by omega
      have hs4 : 0 ≤ (k : Int) + 1 := by omega
      have hs5 : IntKind.i64.wrap ((lenTo l k : Int) + seg (gS l k) (gS l (k + 1))) = (lenTo l k : Int) + seg (gS l k) (gS l (k + 1)) := IntWalk.i64_in _ (by omega)
      go_wp2_with fail
      have d0 := fun z : After wr => After.cell hc0 z
      have d1 := fun z : After wr => After.cell hc1 z
      have d2 := fun z : After wr => After.cell hd0 z
      have d3 := fun z : After wr => After.cell hd1 z
      refine region_ext (by kernel_rfl) (by kernel_rfl) ?_
      repeat (go_big_quiet_step (
        (go_at_call 83; exact after_call (rsegment_any (gS l k) (gS l (k + 1)) _ hgh.out hgi.out))))
      refine wpQuiet_nil ?_
      rintro w1 ⟨⟨_, he⟩, rfl⟩
      clear hs1 hs2 hs4
      go_wp2_with fail
      go_roundw
      case rel => exact ⟨k + 1, by omega, by go_num, by simp [lenTo], hx.trans he⟩
      case measure => simp [intOf]; omega
    · have hlt' : ¬ (k : Int) + 1 < n := by omega
      have hkn : k = n - 1 := by omega
      go_wp2_with fail
      go_ret
      exact ⟨rfl, hx⟩
set_option maxHeartbeats 800000 in
theorem rlength_any (A : Option Addr) (n c : Nat) (l : List Spot) (w : World) (ha : SpotsAt w A l) (hl : l.length = n) :
    Calls Try.prog 60 #[.slice A n c] w fun e w' => e = .returned (.tuple #[.int .i64 (lengthN l), .int .i64 (lcheck l)]) ∧ Ext w w' := by
  have HL := Lib.hid hl; clear hl
  have HA := Lib.hid ha; clear ha
  go_enter Try.func60, Try.ntmps60
  go_wp2_with fail
  refine (rcheck_any A n c l w HA.out HL.out).mono ?_
  rintro e w1 ⟨rfl, hx⟩
  by_cases hz : lcheck l = 0
  · obtain ⟨h2, h40, hin⟩ := lcheck_zero hz
    rw [HL.out] at h2 h40
    have HIN := Lib.hid hin; clear hin
    have HZ := Lib.hid hz
    rw [hz]
    clear hz
    go_wp2_with fail
    refine (rtotal_any A n c l _ (HA.out.ext hx) HL.out (by omega) h40 HIN.out).mono ?_
    rintro e w2 ⟨rfl, he2⟩
    go_wp2_with fail
    go_ret2
    exact ⟨by unfold lengthN; rw [HZ.out, if_neg (by simp), HL.out]; rfl, hx.trans he2⟩
  · have hd : (lcheck l != 0) = true := by simp [hz]
    have HZ := Lib.hid hz; clear hz
    go_wp2_with fail
    go_ret2
    exact ⟨by unfold lengthN; rw [if_pos HZ.out]; rfl, hx⟩
end Go.Proofs.Ytdmamobkgdpefaa
namespace Go.Proofs.Ytdmamobkgdpefaa
open Go.RowKit
def flipN (es : List Edge) (s : Spot) : Spot := if 0 ≤ s.1 ∧ s.1 < es.length then mirN es s.1.toNat s.2 else s
set_option maxRecDepth 100000 in
set_option maxHeartbeats 1600000 in
theorem flipped_any (A : Option Addr) (n c : Nat) (a1 a2 : Int) (l : List Edge) (w : World) (ha : EdgesAt w A l) (hl : l.length = n) (hn : n ≤ 1000) :
    Calls Try.prog 36 #[.agg #[.int .i64 a1, .int .i64 a2], .slice A n c] w fun e w' => e = .returned (SV (flipN l (a1, a2))) ∧ Ext w w' := by
  have HA := Lib.hid ha; have HL := Lib.hid hl; clear ha hl
  by_cases hin : 0 ≤ a1 ∧ a1 < n
  rotate_left
  · have HF : Hid (flipN l (a1, a2) = (a1, a2)) := by show _ = _; unfold flipN; rw [HL.out, if_neg hin]
    by_cases h0 : a1 < 0
    · clear hin
      go_enter Try.func36, Try.ntmps36
      go_wp2_with fail
      refine bodyPost_ret (v := SV (flipN l (a1, a2))) (by rw [HF.out]; simp [results, Try.results36, go_sem]) rfl ⟨rfl, ?_⟩
      exact ((Ext.refl _).alloc _).alloc _
    · have h1 : (n : Int) ≤ a1 := by omega
      clear hin
      go_enter Try.func36, Try.ntmps36
      go_wp2_with fail
      refine bodyPost_ret (v := SV (flipN l (a1, a2))) (by rw [HF.out]; simp [results, Try.results36, go_sem]) rfl ⟨rfl, ?_⟩
      exact ((Ext.refl _).alloc _).alloc _
  obtain ⟨k, hk⟩ : ∃ k : Nat, a1 = k := ⟨a1.toNat, by omega⟩
  subst hk
  have hkn : k < n := by omega
  have HF : Hid (flipN l ((k : Int), a2) = mirN l k a2) := by show _ = _; unfold flipN; rw [HL.out, if_pos hin]; rfl
  clear hin
  obtain ⟨b, off, B, cap, rfl, hn0, hc0, hS, hcap, hcap'⟩ := HA.out.g (k := k) (by rw [HL.out]; exact hkn)
  obtain ⟨hm1, hm2⟩ := sub_mod_facts n k hkn
  have hm3 : (n - k) % n < n := Nat.mod_lt _ (by omega)
  have hnz : ((n : Int) == 0) = false := by simp; omega
  have hnk : 0 ≤ (n : Int) - k := by omega
  have HS := Lib.hid hS; clear hS hn0
  obtain ⟨ln, hln⟩ : ∃ ln, ln = (gE l k).2 := ⟨_, rfl⟩
  rw [← hln] at hc0 HS hcap
  obtain ⟨LN, hLN'⟩ : ∃ LN, LN = lengthN ln := ⟨_, rfl⟩
  have hLN : LN ≤ 1000000000000 := by rw [hLN']; exact lengthN_le ln
  have HR : Hid (mirN l k a2 = ((((n - k) % n : Nat) : Int), mirAt LN a2)) := by show mirN l k a2 = _; rw [mirN, HL.out, hLN', hln]
  have HLE := Lib.hid hLN'; clear hLN' hln
  have hbl : b < w.heap.size := cell_lt hc0
  go_enter Try.func36, Try.ntmps36
  go_wp2_with fail
  refine (rlength_any B ln.length cap ln _ ((HS.out.ext ((Ext.refl _).alloc _)).ext ((Ext.refl _).alloc _)) rfl).mono ?_
  rintro e w1 ⟨rfl, he1⟩
  have hX : Blk 76 w1 w.heap.size [.int .i64 (k : Int), .int .i64 a2] := ((Blk.new' rfl).ext ((Ext.refl _).alloc _)).ext he1
  have hZ : Blk 76 w1 (w.heap.size + 1) [.int .i64 0, .int .i64 0] := (Blk.new' (by simp)).ext he1
  have hx1 : Ext w w1 := (((Ext.refl w).alloc _).alloc _).trans he1
  obtain ⟨c0, c1⟩ := blk2 hX
  obtain ⟨d0, d1⟩ := blk2 hZ
  have f0 := hZ.frozen 0
  have f1 := hZ.frozen 1
  rw [← HLE.out]
  have HX := Lib.hid hx1
  clear he1 hX hZ hx1 hc0
  obtain ⟨cz, hcz⟩ : ∃ cz, cz = lcheck ln := ⟨_, rfl⟩
  rw [← hcz]
  clear hcz
  by_cases hp : 0 ≤ a2
  · by_cases hq : a2 ≤ LN
    · have HV : Hid (mirAt LN a2 = LN - a2) := by show _ = _; unfold mirAt; rw [if_pos ⟨hp, hq⟩]
      go_wp2_with fail
      refine bodyPost_ret (v := SV (flipN l ((k : Int), a2))) (by rw [HF.out, HR.out, HV.out]; simp [results, Try.results36, go_sem, d0, d1]) rfl ⟨rfl, ?_⟩
      exact (HX.out.setCell (by simp) _).setCell (by simp) _
    · have HV : Hid (mirAt LN a2 = 0) := by show _ = _; unfold mirAt; rw [if_neg (by omega)]
      go_wp2_with fail
      refine bodyPost_ret (v := SV (flipN l ((k : Int), a2))) (by rw [HF.out, HR.out, HV.out]; simp [results, Try.results36, go_sem, d0, d1]) rfl ⟨rfl, ?_⟩
      exact (HX.out.setCell (by simp) _).setCell (by simp) _
  · have HV : Hid (mirAt LN a2 = 0) := by show _ = _; unfold mirAt; rw [if_neg (by omega)]
    go_wp2_with fail
    refine bodyPost_ret (v := SV (flipN l ((k : Int), a2))) (by rw [HF.out, HR.out, HV.out]; simp [results, Try.results36, go_sem, d0, d1]) rfl ⟨rfl, ?_⟩
    exact (HX.out.setCell (by simp) _).setCell (by simp) _
end Go.Proofs.Ytdmamobkgdpefaa
