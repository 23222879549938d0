/- polyline.Check and polygon.Check: what they compute -/
import Derived.Test.YtpmfikkcidgoeaaSimple
namespace Go.Proofs.Ytpmfikkcidgoeaa
open Go.RowKit
def stepF (l : List Spot) (i : Nat) : Bool := !decide (gS l i = gS l (i + 1))
def lcheck (l : List Spot) : Int := if 40 < l.length then 5 else if l.length < 2 then 11 else if l.any outB = true then 3 else if allB (stepF l) (l.length - 1) = true then 0 else 11
def pcheck (l : List Spot) : Int := if 40 < l.length then 5 else if l.length < 3 then 11 else if l.any outB = true then 3 else if simpleB l = true then 0 else 11

set_option maxHeartbeats 400000 in
theorem pcheck_any (A : Option Addr) (n c : Nat) (l : List Spot) (w : World) (ha : SpotsAt w A l) (hl : l.length = n) (hn : n ≤ c) :
    Calls Try.prog 43 #[.slice A n c] w fun e w' => e = .returned (.int .i64 (pcheck l)) ∧ Ext w w' := by
  have HL := Lib.hid hl; clear hl
  have HA := Lib.hid ha; clear ha
  by_cases h40 : 40 < n
  · go_enter Try.func43, Try.ntmps43
    go_wp2_with fail
    go_ret
    exact ⟨ret_int (by unfold pcheck; rw [HL.out, if_pos h40]), Ext.refl _⟩
  by_cases h3 : n < 3
  · go_enter Try.func43, Try.ntmps43
    go_wp2_with fail
    go_ret
    exact ⟨ret_int (by unfold pcheck; rw [HL.out, if_neg (by omega), if_pos h3]), Ext.refl _⟩
  go_enter Try.func43, Try.ntmps43
  go_wp2_with fail
  refine (containsFunc_p A n c l w HA.out HL.out (by omega)).mono ?_
  rintro e w1 ⟨rfl, hx⟩
  cases hp : l.any outB
  case true =>
    have HP := Lib.hid hp; clear hp
    go_wp2_with fail
    go_ret
    exact ⟨ret_int (by unfold pcheck; rw [HL.out, if_neg (by omega), if_neg (by omega), if_pos HP.out]), hx⟩
  have HP := Lib.hid hp; clear hp
  go_wp2_with fail
  refine (simple_any A n c l w1 (HA.out.ext hx) HL.out hn (by omega)).mono ?_
  rintro e w2 ⟨rfl, hx2⟩
  cases hp : simpleB l
  · have HS := Lib.hid hp; clear hp
    go_wp2_with fail
    go_ret
    exact ⟨ret_int (by unfold pcheck; rw [HL.out, if_neg (by omega), if_neg (by omega), if_neg (by rw [HP.out]; decide), if_neg (by rw [HS.out]; decide)]), hx.trans hx2⟩
  · have HS := Lib.hid hp; clear hp
    go_wp2_with fail
    go_ret
    exact ⟨ret_int (by unfold pcheck; rw [HL.out, if_neg (by omega), if_neg (by omega), if_neg (by rw [HP.out]; decide), if_pos HS.out]), hx.trans hx2⟩

set_option maxHeartbeats 400000 in
theorem lcheck_any (A : Option Addr) (n c : Nat) (l : List Spot) (w : World) (ha : SpotsAt w A l) (hl : l.length = n) :
    Calls Try.prog 42 #[.slice A n c] w fun e w' => e = .returned (.int .i64 (lcheck l)) ∧ Ext w w' := by
  have HL := Lib.hid hl; clear hl
  have HA := Lib.hid ha; clear ha
  by_cases h40 : 40 < n
  · go_enter Try.func42, Try.ntmps42
    go_wp2_with fail
    go_ret
    exact ⟨ret_int (by unfold lcheck; rw [HL.out, if_pos h40]), Ext.refl _⟩
  by_cases h3 : n < 2
  · go_enter Try.func42, Try.ntmps42
    go_wp2_with fail
    go_ret
    exact ⟨ret_int (by unfold lcheck; rw [HL.out, if_neg (by omega), if_pos h3]), Ext.refl _⟩
  go_enter Try.func42, Try.ntmps42
  go_wp2_with fail
  refine (containsFunc_l A n c l w HA.out HL.out (by omega)).mono ?_
  rintro e w1 ⟨rfl, hx⟩
  cases hp : l.any outB
  case true =>
    have HP := Lib.hid hp; clear hp
    go_wp2_with fail
    go_ret
    exact ⟨ret_int (by unfold lcheck; rw [HL.out, if_neg (by omega), if_neg (by omega), if_pos HP.out]), hx⟩
  have HP := Lib.hid hp; clear hp
  go_wp2_with fail
  go_loopw [15] (fun i wr => ∃ k : Nat, k ≤ n - 1 ∧ i = .int .i64 k ∧ allB (stepF l) k = true ∧ Ext w wr) (fun i _ => n - (intOf i).toNat)
  case atStart => exact ⟨0, Nat.zero_le _, rfl, rfl, hx⟩
  case round =>
    clear hx
    obtain ⟨k, hk, rfl, ht, hx⟩ := hrel
    have HT := Lib.hid ht; clear ht
    by_cases hlt : k < n - 1
    · have hlt' : (k : Int) < (n : Int) - 1 := by omega
      obtain ⟨b, off, rfl, hc0, hc1⟩ := (HA.out.ext hx).g (k := k) (by rw [HL.out]; omega)
      obtain ⟨hd0, hd1⟩ := (HA.out.ext hx).at1 (k := k + 1) (by rw [HL.out]; omega)
      have hs1 : IntKind.i64.wrap ((k : Int) + 1) = k + 1 := IntWalk.i64_in _ (by omega)
      have hs2 : ((k : Int) + 1).toNat = k + 1 := by omega
      have hs3 : (k : Int) + 1 < n := by omega
      have hs4 : 0 ≤ (k : Int) + 1 := by omega
      have hp0 := eqS_dec (gS l k) (gS l (k + 1))
      cases hp : eqS (gS l k).1 (gS l k).2 (gS l (k + 1)).1 (gS l (k + 1)).2
      · have HS : Hid (stepF l k = true) := by show stepF l k = true; unfold stepF; rw [← hp0, hp]; rfl
        clear hp0
        go_wp2
        go_quiet (fail)
        clear hs1 hs2 hs4
        go_wp2
        go_roundw
        case rel => exact ⟨k + 1, by omega, by go_num, allB_succ HT.out HS.out, hx.drewN _⟩
        case measure => simp [intOf]; omega
      · have HS : Hid (stepF l k = false) := by show stepF l k = false; unfold stepF; rw [← hp0, hp]; rfl
        clear hp0
        go_wp2
        go_quiet (fail)
        clear hs1 hs2 hs4
        go_wp2
        go_ret
        exact ⟨ret_int (by
          unfold lcheck
          rw [HL.out, if_neg (by omega), if_neg (by omega), if_neg (by rw [HP.out]; decide), if_neg]
          rw [allB_false hlt HS.out]; decide), hx.drewN _⟩
    · have hlt' : ¬ (k : Int) < (n : Int) - 1 := by omega
      go_wp2
      go_ret
      exact ⟨ret_int (by
          unfold lcheck
          rw [HL.out, if_neg (by omega), if_neg (by omega), if_neg (by rw [HP.out]; decide), if_pos]
          obtain rfl : k = n - 1 := by omega
          exact HT.out), hx⟩
end Go.Proofs.Ytpmfikkcidgoeaa
