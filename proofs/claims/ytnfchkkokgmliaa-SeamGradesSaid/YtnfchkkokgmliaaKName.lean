/- names -/
import Derived.Test.YtnfchkkokgmliaaKBase
namespace Go.Proofs.Ytnfchkkokgmliaa
open Go.RowKit
theorem isDigit_any (c : Int) (w : World) :
    Calls Try.prog 57 #[.int .u8 c] w fun e w' => e = .returned (.bool (decide (48 ≤ c) && decide (c ≤ 57))) ∧ w = w' := by
  go_enter Try.func57, Try.ntmps57
  go_wp2
  all_goals
    go_ret
    exact ⟨ret_bool (by simp; try omega), rfl⟩
def bt (s : ByteArray) (k : Nat) : Int := if h : k < s.size then (s[k].toNat : Int) else 0
theorem bt_eq {s : ByteArray} {k : Nat} (h : k < s.size) : (s[k].toNat : Int) = bt s k := by simp [bt, h]
def smallB (c : Int) : Bool := decide (97 ≤ c) && decide (c ≤ 122)
def digitB (c : Int) : Bool := decide (48 ≤ c) && decide (c ≤ 57)
def chF (s : ByteArray) (i : Nat) : Bool := smallB (bt s i) || (!(i == 0) && (bt s i == 95 || digitB (bt s i)))
def nameB (s : ByteArray) : Bool := !(s.size == 0) && !decide (24 < s.size) && !(s.toList == [109, 105, 110]) && !(s.toList == [109, 97, 120]) && allB (chF s) s.size
theorem name_false {s : ByteArray} {k : Nat} (hk : k < s.size) (h : chF s k = false) : false = nameB s := by
  unfold nameB; rw [allB_false hk h]; simp
set_option maxHeartbeats 800000 in
theorem fname_test (s : ByteArray) (w : World) (h0 : ((s.size : Int) == 0) = false) (h1 : decide (24 < (s.size : Int)) = false) (h2 : (s.toList == [109, 105, 110]) = false) (h3 : (s.toList == [109, 97, 120]) = false) :
    Calls Try.prog 53 #[.string s] w fun e w' => e = .returned (.bool (nameB s)) ∧ w = w' := by
  have h24 : s.size ≤ 24 := by simp at h1; omega
  have H0 : Hid ((!(s.size == 0) && !decide (24 < s.size) && !(s.toList == [109, 105, 110]) && !(s.toList == [109, 97, 120])) = true) := by
    have h0' : (s.size == 0) = false := by simp at h0 ⊢; intro h; apply h0; simp [h]
    show _ = true
    rw [h2, h3, h0']; simp; omega
  go_enter Try.func53, Try.ntmps53
  go_wp2_with fail
  go_loop [24] (fun i => ∃ k : Nat, k ≤ s.size ∧ i = .int .i64 k ∧ allB (chF s) k = true) (fun i => s.size - (intOf i).toNat)
  case atStart => exact ⟨0, Nat.zero_le _, rfl, rfl⟩
  case round =>
    obtain ⟨k, hk, rfl, ht⟩ := hrel
    have HT := Lib.hid ht; clear ht
    by_cases hlt : k < s.size
    · by_cases ha : 97 ≤ (s[k].toNat : Int)
      · by_cases hz : (s[k].toNat : Int) ≤ 122
        · go_wp2_with fail
          go_round
          case rel => exact ⟨k + 1, by omega, by go_num, allB_succ HT.out (by unfold chF smallB digitB; rw [← bt_eq hlt]; simp; omega)⟩
          case measure => simp [intOf]; omega
        · have hzb : decide ((s[k].toNat : Int) ≤ 122) = false := by simp; omega
          have h95 : ((s[k].toNat : Int) != 95) = true := by simp; omega
          by_cases hk0 : k = 0
          · subst hk0
            go_wp2_with fail
            go_ret
            exact ⟨ret_bool (name_false hlt (by unfold chF smallB digitB; rw [← bt_eq hlt]; simp; omega)), rfl⟩
          · have hkb : ((k : Int) == 0) = false := by simp; omega
            go_wp2_with fail
            refine (isDigit_any _ _).mono ?_
            rintro e w1 ⟨rfl, rfl⟩
            have hd : (decide (48 ≤ (s[k].toNat : Int)) && decide ((s[k].toNat : Int) ≤ 57)) = false := by simp; omega
            go_wp2_with fail
            go_ret
            exact ⟨ret_bool (name_false hlt (by unfold chF smallB digitB; rw [← bt_eq hlt]; simp; omega)), rfl⟩
      · have hab : decide (97 ≤ (s[k].toNat : Int)) = false := by simp; omega
        by_cases hk0 : k = 0
        · subst hk0
          go_wp2_with fail
          go_ret
          exact ⟨ret_bool (name_false hlt (by unfold chF smallB digitB; rw [← bt_eq hlt]; simp; omega)), rfl⟩
        · have hkb : ((k : Int) == 0) = false := by simp; omega
          by_cases h95 : (s[k].toNat : Int) = 95
          · have h95b : ((s[k].toNat : Int) != 95) = false := by rw [h95]; decide
            have H95 := Lib.hid h95; clear h95
            go_wp2_with fail
            go_round
            case rel => exact ⟨k + 1, by omega, by go_num, allB_succ HT.out (by unfold chF smallB digitB; rw [← bt_eq hlt]; rw [H95.out]; simp; omega)⟩
            case measure => simp [intOf]; omega
          · have h95b : ((s[k].toNat : Int) != 95) = true := by simp; omega
            go_wp2_with fail
            refine (isDigit_any _ _).mono ?_
            rintro e w1 ⟨rfl, rfl⟩
            cases hd : (decide (48 ≤ (s[k].toNat : Int)) && decide ((s[k].toNat : Int) ≤ 57))
            · have HD := Lib.hid hd; clear hd
              go_wp2_with fail
              go_ret
              exact ⟨ret_bool (name_false hlt (by unfold chF smallB digitB; rw [← bt_eq hlt]; rw [HD.out]; simp; omega)), rfl⟩
            · have HD := Lib.hid hd; clear hd
              go_wp2_with fail
              go_round
              case rel => exact ⟨k + 1, by omega, by go_num, allB_succ HT.out (by unfold chF smallB digitB; rw [← bt_eq hlt]; rw [HD.out]; simp; omega)⟩
              case measure => simp [intOf]; omega
    · go_wp2_with fail
      go_ret
      exact ⟨ret_bool (by
        obtain rfl : k = s.size := by omega
        unfold nameB; rw [HT.out, H0.out]; rfl), rfl⟩
theorem fname_any (s : ByteArray) (w : World) : Calls Try.prog 53 #[.string s] w fun e w' => e = .returned (.bool (nameB s)) ∧ w = w' := by
  cases h0 : ((s.size : Int) == 0)
  case true =>
    have H : Hid (nameB s = false) := by
      have : (s.size == 0) = true := by simp at h0 ⊢; exact h0
      show nameB s = false
      unfold nameB; rw [this]; rfl
    go_enter Try.func53, Try.ntmps53
    go_wp2_with fail
    go_ret
    exact ⟨ret_bool H.out.symm, rfl⟩
  cases h1 : decide (24 < (s.size : Int))
  case true =>
    have H : Hid (nameB s = false) := by
      have : decide (24 < s.size) = true := by simp at h1 ⊢; omega
      show nameB s = false
      unfold nameB; rw [this]; simp
    go_enter Try.func53, Try.ntmps53
    go_wp2_with fail
    go_ret
    exact ⟨ret_bool H.out.symm, rfl⟩
  cases h2 : (s.toList == [109, 105, 110])
  case true =>
    have H : Hid (nameB s = false) := by
      show nameB s = false
      unfold nameB; rw [h2]; simp
    go_enter Try.func53, Try.ntmps53
    go_wp2_with fail
    go_ret
    exact ⟨ret_bool H.out.symm, rfl⟩
  cases h3 : (s.toList == [109, 97, 120])
  case true =>
    have H : Hid (nameB s = false) := by
      show nameB s = false
      unfold nameB; rw [h3]; simp
    go_enter Try.func53, Try.ntmps53
    go_wp2_with fail
    go_ret
    exact ⟨ret_bool H.out.symm, rfl⟩
  exact fname_test s w h0 h1 h2 h3
end Go.Proofs.Ytnfchkkokgmliaa
