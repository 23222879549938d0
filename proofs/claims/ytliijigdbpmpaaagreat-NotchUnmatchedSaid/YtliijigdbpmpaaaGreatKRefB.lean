/- the reference: garmentref10.far, Far, Check -/
import Derived.Test.YtliijigdbpmpaaaGreatKWd
import Derived.Test.YtliijigdbpmpaaaGreatKSeg
namespace Go.Proofs.YtliijigdbpmpaaaGreat
open Go.RowKit
def farB (n : Int) : Bool := decide (1048576 < n) || decide (n < -1048576)
theorem far_any (n : Int) (w : World) : Calls Tryz.prog 75 #[.int .i64 n] w fun e w' => e = .returned (.bool (farB n)) ∧ w = w' := by
  by_cases h1 : 1048576 < n
  · go_enter Tryz.func75, Tryz.ntmps75
    go_wp2
    go_ret
    exact ⟨ret_bool (by simp [farB, h1]), rfl⟩
  · by_cases h2 : n < -1048576
    · go_enter Tryz.func75, Tryz.ntmps75
      go_wp2
      go_ret
      exact ⟨ret_bool (by simp [farB, h2]), rfl⟩
    · go_enter Tryz.func75, Tryz.ntmps75
      go_wp2
      go_ret
      exact ⟨ret_bool (by simp [farB, h1, h2]), rfl⟩
theorem outB_far (s : Spot) : outB s = (farB s.1 || farB s.2) := by
  unfold outB farB
  rw [Bool.eq_iff_iff]
  simp only [decide_eq_true_eq, Bool.or_eq_true]
  omega
theorem any_take_succ2 {l : List Spot} {k : Nat} (h : k < l.length) : (l.take (k + 1)).any outB = ((l.take k).any outB || outB (gS l k)) := by
  rw [take_succ _ _ h, List.any_append, gS_eq h]; simp
theorem any_of_get {l : List Spot} {k : Nat} (h : k < l.length) (ho : outB (gS l k) = true) : l.any outB = true := by
  rw [gS_eq h] at ho
  exact List.any_eq_true.2 ⟨_, List.getElem_mem h, ho⟩
set_option maxHeartbeats 800000 in
theorem farl_any (A : Option Addr) (n c : Nat) (l : List Spot) (w : World) (ha : SpotsAt w A l) (hl : l.length = n) (hn : n ≤ 1000000) :
    Calls Tryz.prog 60 #[.slice A n c] w fun e w' => e = .returned (.bool (l.any outB)) ∧ w = w' := by
  have HL := Lib.hid hl; clear hl
  have HA := Lib.hid ha; clear ha
  go_enter Tryz.func60, Tryz.ntmps60
  go_wp2_with fail
  go_loopw [3] (fun i wr => ∃ k : Nat, k ≤ n ∧ i = .int .i64 k ∧ (l.take k).any outB = false ∧ wr = w) (fun i _ => n - (intOf i).toNat)
  case atStart => exact ⟨0, Nat.zero_le _, rfl, rfl, rfl⟩
  case round =>
    obtain ⟨k, hk, rfl, ht, rfl⟩ := hrel
    have HT := Lib.hid ht; clear ht
    by_cases hlt : k < n
    · have hkl : k < l.length := by rw [HL.out]; exact hlt
      obtain ⟨b, off, rfl, hc0, hc1⟩ := HA.out.g hkl
      have HO := Lib.hid (outB_far (gS l k))
      go_wp2_with fail
      refine (far_any _ _).mono ?_
      rintro e w1 ⟨rfl, rfl⟩
      cases hp : farB (gS l k).1
      · have HP := Lib.hid hp; clear hp
        go_wp2_with fail
        refine (far_any _ _).mono ?_
        rintro e w1 ⟨rfl, rfl⟩
        cases hq : farB (gS l k).2
        · have HQ := Lib.hid hq; clear hq
          go_wp2_with fail
          go_roundw
          case rel => exact ⟨k + 1, by omega, by go_num, by rw [any_take_succ2 hkl, HT.out, HO.out, HP.out, HQ.out]; rfl, trivial⟩
          case measure => simp [intOf]; omega
        · have HQ := Lib.hid hq; clear hq
          go_wp2_with fail
          go_ret
          exact ⟨ret_bool (by rw [any_of_get hkl (by rw [HO.out, HP.out, HQ.out]; rfl)]), rfl⟩
      · have HP := Lib.hid hp; clear hp
        go_wp2_with fail
        go_ret
        exact ⟨ret_bool (by rw [any_of_get hkl (by rw [HO.out, HP.out]; rfl)]), rfl⟩
    · go_wp2_with fail
      go_ret
      refine ⟨ret_bool ?_, rfl⟩
      have h := HT.out
      rw [List.take_of_length_le (by rw [HL.out]; omega)] at h
      exact h.symm
set_option maxHeartbeats 1600000 in
theorem rcheck_any (A : Option Addr) (n c : Nat) (l : List Spot) (w : World) (ha : SpotsAt w A l) (hl : l.length = n) :
    Calls Tryz.prog 35 #[.slice A n c] w fun e w' => e = .returned (.int .i64 (lcheck l)) ∧ Ext w w' := by
  have HL := Lib.hid hl; clear hl
  have HA := Lib.hid ha; clear ha
  by_cases h40 : 40 < n
  · go_enter Tryz.func35, Tryz.ntmps35
    go_wp2_with fail
    go_ret
    exact ⟨ret_int (by unfold lcheck; rw [HL.out, if_pos h40]), Ext.refl _⟩
  by_cases h2 : n < 2
  · go_enter Tryz.func35, Tryz.ntmps35
    go_wp2_with fail
    go_ret
    exact ⟨ret_int (by unfold lcheck; rw [HL.out, if_neg h40, if_pos h2]), Ext.refl _⟩
  go_enter Tryz.func35, Tryz.ntmps35
  go_wp2_with fail
  refine (farl_any A n c l w HA.out HL.out (by omega)).mono ?_
  rintro e w1 ⟨rfl, rfl⟩
  cases ho : l.any outB
  rotate_left
  · have HO := Lib.hid ho; clear ho
    go_wp2_with fail
    go_ret
    exact ⟨ret_int (by unfold lcheck; rw [HL.out, if_neg h40, if_neg h2, if_pos HO.out]), Ext.refl _⟩
  have HO := Lib.hid ho; clear ho
  go_wp2_with fail
  go_loopw [3] (fun i wr => ∃ k : Nat, 1 ≤ k ∧ k ≤ n ∧ i = .int .i64 k ∧ allB (stepF l) (k - 1) = true ∧ ∃ q, wr = w.drewN q) (fun i _ => n - (intOf i).toNat)
  case atStart => exact ⟨1, by omega, by omega, rfl, rfl, 0, rfl⟩
  case round =>
    obtain ⟨k, hk1, hk, rfl, ht, q, rfl⟩ := hrel
    have HT := Lib.hid ht; clear ht
    by_cases hlt : k < n
    · obtain ⟨b, off, rfl, hc0, hc1⟩ := HA.out.g (k := k) (by rw [HL.out]; exact hlt)
      obtain ⟨hd0, hd1⟩ := HA.out.at1 (k := k - 1) (by rw [HL.out]; omega)
      obtain ⟨j, rfl⟩ : ∃ j, k = j + 1 := ⟨k - 1, by omega⟩
      rw [Nat.add_sub_cancel] at hd0 hd1 HT
      have hw1 : IntKind.i64.wrap (((j + 1 : Nat) : Int) - 1) = j := IntWalk.i64_in _ (by omega) |>.trans (by omega)
      have hlt' : (j : Int) < n := by omega
      have hlt'' : (j : Int) + 1 < n := by omega
      by_cases heq : gS l (j + 1) = gS l j
      · have hq : eqS (gS l (j + 1)).1 (gS l (j + 1)).2 (gS l j).1 (gS l j).2 = true := (eqS_iff _ _).2 heq
        have HE := Lib.hid heq; clear heq
        go_wp2_with fail
        go_quiet (fail)
        go_wp2_with fail
        go_ret
        refine ⟨ret_int ?_, Ext.drewN (Ext.drewN (Ext.refl _) _) _⟩
        unfold lcheck
        rw [HL.out, if_neg h40, if_neg h2, if_neg (by rw [HO.out]; decide), if_neg]
        rw [allB_false (k := j) (by omega) (by unfold stepF; simp [HE.out])]; decide
      · have hq : eqS (gS l (j + 1)).1 (gS l (j + 1)).2 (gS l j).1 (gS l j).2 = false := by rw [Bool.eq_false_iff]; intro h; exact heq ((eqS_iff _ _).1 h)
        have HE := Lib.hid heq; clear heq
        go_wp2_with fail
        go_quiet (fail)
        go_wp2_with fail
        go_roundw
        case rel => exact ⟨j + 1 + 1, by omega, by omega, by go_num, by rw [Nat.add_sub_cancel]; exact allB_succ HT.out (by unfold stepF; rw [decide_eq_false (fun h => HE.out h.symm)]; rfl), _, rfl⟩
        case measure => simp [intOf]; omega
    · obtain rfl : k = n := by omega
      go_wp2_with fail
      go_ret
      refine ⟨ret_int ?_, Ext.drewN (Ext.refl _) _⟩
      unfold lcheck
      rw [HL.out, if_neg h40, if_neg h2, if_neg (by rw [HO.out]; decide), if_pos HT.out]
end Go.Proofs.YtliijigdbpmpaaaGreat
