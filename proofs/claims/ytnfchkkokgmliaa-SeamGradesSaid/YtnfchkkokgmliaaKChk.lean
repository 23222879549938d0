/- polyline.Check and polygon.Check: what they compute -/
import Derived.Test.YtnfchkkokgmliaaKSl
/- polygon.simple: what it computes -/
namespace Go.Proofs.Ytnfchkkokgmliaa
open Go.RowKit
def dupF (l : List Spot) (i : Nat) : Bool := !((l.take i).any fun t => decide (gS l i = t))
def meetF (l : List Spot) (n i j : Nat) : Bool := (i + 2 + j + 1) % n == i || !meetB (gS l i) (gS l ((i + 1) % n)) (gS l (i + 2 + j)) (gS l ((i + 2 + j + 1) % n))
def sideF (l : List Spot) (n i : Nat) : Bool := !foldB (gS l i) (gS l ((i + 1) % n)) (gS l ((i + 2) % n)) && allB (meetF l n i) (n - (i + 2))
theorem side_true {l : List Spot} {n i : Nat} (h : foldB (gS l i) (gS l ((i + 1) % n)) (gS l ((i + 2) % n)) = false) (h' : allB (meetF l n i) (n - (i + 2)) = true) : sideF l n i = true := by
  unfold sideF; rw [h, h']; rfl
def simpleB (l : List Spot) : Bool := allB (dupF l) l.length && allB (sideF l l.length) l.length

set_option maxHeartbeats 1000000 in
theorem simple_any (A : Option Addr) (n c : Nat) (l : List Spot) (w : World) (ha : SpotsAt w A l) (hl : l.length = n) (hn : n ≤ c) (hn' : n ≤ 1000) :
    Calls Try.prog 38 #[.slice A n c] w fun e w' => e = .returned (.bool (simpleB l)) ∧ Ext w w' := by
  have HL := Lib.hid hl; clear hl
  have HA := Lib.hid ha; clear ha
  go_enter Try.func38, Try.ntmps38
  go_wp2
  go_loopw [14] (fun i wr => ∃ k : Nat, k ≤ n ∧ i = .int .i64 k ∧ allB (dupF l) k = true ∧ Ext w wr) (fun i _ => n - (intOf i).toNat)
  case atStart => exact ⟨0, Nat.zero_le _, rfl, rfl, Ext.refl _⟩
  case round =>
    obtain ⟨k, hk, rfl, ht, hx⟩ := hrel
    have HT := Lib.hid ht; clear ht
    by_cases hlt : k < n
    · have hkl : k < l.length := by rw [HL.out]; exact hlt
      obtain ⟨b, off, rfl, hc0, hc1⟩ := (HA.out.ext hx).g hkl
      go_wp2
      refine wp_at fun w0 hw0 => ?_
      have he0 : Ext wr w0 := by rw [hw0]; exact (Ext.refl _).alloc _
      have c0 : w0.cell? ⟨wr.heap.size, 0, none⟩ = some (.int .i64 (gS l k).1) := by rw [hw0]; simp [go_sem]
      have c1 : w0.cell? ⟨wr.heap.size, 1, none⟩ = some (.int .i64 (gS l k).2) := by rw [hw0]; simp [go_sem]
      clear hw0 hc0 hc1
      have d0 := fun z : After w0 => After.cell c0 z
      have d1 := fun z : After w0 => After.cell c1 z
      refine region_ext (by kernel_rfl) (by kernel_rfl) ?_
      repeat (go_big_quiet_step (
        (go_at_call 43; exact after_call (contains_any _ k c (l.take k) (gS l k) _ (((HA.out.ext hx).ext he0).ext (After.ext _) |>.take k) (by rw [List.length_take]; omega) (by omega)))))
      refine wpQuiet_nil ?_
      rintro w1 ⟨⟨_, he⟩, rfl⟩
      cases hp : (l.take k).any fun t => decide (gS l k = t)
      · have HP := Lib.hid hp; clear hp
        go_wp2_with fail
        go_roundw
        case rel => exact ⟨k + 1, by omega, by go_num, allB_succ HT.out (by unfold dupF; rw [HP.out]; rfl), (hx.trans he0).trans he⟩
        case measure => simp [intOf]; omega
      · have HP := Lib.hid hp; clear hp
        go_wp2_with fail
        go_ret
        exact ⟨ret_bool (by unfold simpleB; rw [allB_false (k := k) (by rw [HL.out]; exact hlt) (by unfold dupF; rw [HP.out]; rfl)]; rfl), (hx.trans he0).trans he⟩
    · obtain rfl : k = n := by omega
      clear hlt hk
      go_wp2_with fail
      go_loopw [27] (fun i wr => ∃ j : Nat, j ≤ k ∧ i = .int .i64 j ∧ allB (sideF l k) j = true ∧ Ext w wr) (fun i _ => k - (intOf i).toNat)
      case atStart => exact ⟨0, Nat.zero_le _, rfl, rfl, hx⟩
      case round =>
        clear hx
        obtain ⟨i, hi, rfl, hs, hx⟩ := hrel
        have HS := Lib.hid hs; clear hs
        by_cases hlt : i < k
        · have hil : i < l.length := by rw [HL.out]; exact hlt
          have hm1 : (i + 1) % k < k := Nat.mod_lt _ (by omega)
          have hm2 : (i + 2) % k < k := Nat.mod_lt _ (by omega)
          obtain ⟨b, off, rfl, hc0, hc1⟩ := (HA.out.ext hx).g hil
          obtain ⟨hd0, hd1⟩ := (HA.out.ext hx).at1 (k := (i + 1) % k) (by rw [HL.out]; exact hm1)
          obtain ⟨hf0, hf1⟩ := (HA.out.ext hx).at1 (k := (i + 2) % k) (by rw [HL.out]; exact hm2)
          have hbl : b < wr.heap.size := cell_lt hc0
          have hbl1 : b < wr.heap.size + 1 := by omega
          obtain ⟨hj0, hj1, hj2⟩ := mod_idx i k 1 1 rfl (by omega)
          go_wp2
          clear hj0 hj1 hj2
          refine wp_at fun w0 hw0 => ?_
          have he0 : Ext wr w0 := by rw [hw0]; exact ((Ext.refl _).alloc _).alloc _
          have c0 : w0.cell? ⟨wr.heap.size, 0, none⟩ = some (.int .i64 (gS l i).1) := by rw [hw0]; simp [go_sem]
          have c1 : w0.cell? ⟨wr.heap.size, 1, none⟩ = some (.int .i64 (gS l i).2) := by rw [hw0]; simp [go_sem]
          have c2 : w0.cell? ⟨wr.heap.size + 1, 0, none⟩ = some (.int .i64 (gS l ((i + 1) % k)).1) := by rw [hw0]; simp [go_sem]
          have c3 : w0.cell? ⟨wr.heap.size + 1, 1, none⟩ = some (.int .i64 (gS l ((i + 1) % k)).2) := by rw [hw0]; simp [go_sem]
          clear hw0 hc0 hc1 hd0 hd1 hbl hbl1
          have c4 := he0.cell hf0
          have c5 := he0.cell hf1
          clear hf0 hf1
          have d0 := fun z : After w0 => After.cell c0 z
          have d1 := fun z : After w0 => After.cell c1 z
          have d2 := fun z : After w0 => After.cell c2 z
          have d3 := fun z : After w0 => After.cell c3 z
          have d4 := fun z : After w0 => After.cell c4 z
          have d5 := fun z : After w0 => After.cell c5 z
          obtain ⟨hi0, hi1, hi2⟩ := mod_idx i k 2 2 rfl (by omega)
          refine region_ext (by kernel_rfl) (by kernel_rfl) ?_
          repeat (go_big_quiet_step (
            (go_at_call 44; exact after_call (folded_any (gS l i) (gS l ((i + 1) % k)) (gS l ((i + 2) % k)) _))))
          refine wpQuiet_nil ?_
          rintro w1 ⟨⟨_, he⟩, rfl⟩
          clear d0 d1 d2 d3 d4 d5 c4 c5 hi0 hi1 hi2
          cases hp : foldB (gS l i) (gS l ((i + 1) % k)) (gS l ((i + 2) % k))
          case true =>
            have HP := Lib.hid hp; clear hp
            go_wp2_with fail
            go_ret
            exact ⟨ret_bool (by unfold simpleB; rw [allB_false (k := i) (n := l.length) (f := sideF l l.length) (by rw [HL.out]; exact hlt) (by unfold sideF; rw [HL.out, HP.out]; rfl)]; simp), (hx.trans he0).trans he⟩
          have HP := Lib.hid hp; clear hp
          have hx1 : Ext w w1 := (hx.trans he0).trans he
          have e0 := he.cell c0
          have e1 := he.cell c1
          have e2 := he.cell c2
          have e3 := he.cell c3
          clear c0 c1 c2 c3
          obtain ⟨sb, hsb⟩ : ∃ sb, sb = wr.heap.size := ⟨_, rfl⟩
          rw [← hsb] at e0 e1 e2 e3
          rw [← hsb]
          clear hsb he0 he hx
          go_wp2_with fail
          go_loopw [9] (fun v wq => ∃ j : Nat, j ≤ k - (i + 2) ∧ v = .int .i64 ((i : Int) + 2 + j) ∧ allB (meetF l k i) j = true ∧ Ext w1 wq) (fun v _ => k + 2 - (intOf v).toNat)
          case atStart => exact ⟨0, Nat.zero_le _, by simp, rfl, Ext.refl _⟩
          case round =>
            obtain ⟨wq, rfl⟩ : ∃ wq : World, wq = wr := ⟨_, rfl⟩
            obtain ⟨j, hj, rfl, hs, hy⟩ := hrel
            have HJ := Lib.hid hs; clear hs
            have g0 := hy.cell e0
            have g1 := hy.cell e1
            have g2 := hy.cell e2
            have g3 := hy.cell e3
            by_cases hjk : i + 2 + j < k
            · have hjk' : (i : Int) + 2 + j < k := by omega
              obtain ⟨q0, q1, q2⟩ : 0 ≤ ((i : Int) + 2 + j + 1) % k ∧ ((i : Int) + 2 + j + 1) % k < k ∧ (((i : Int) + 2 + j + 1) % k).toNat = (i + 2 + j + 1) % k := by
                have h := mod_idx (i + 2 + j) k 1 1 rfl (by omega)
                simpa using h
              by_cases hq : (i + 2 + j + 1) % k = i
              · have hqb : (((i : Int) + 2 + j + 1) % k != i) = false := by
                  have : ((i : Int) + 2 + j + 1) % k = i := by omega
                  simp [this]
                have hend : i + 2 + j + 1 = k := by
                  rcases Nat.lt_or_ge (i + 2 + j + 1) k with h | h
                  · rw [Nat.mod_eq_of_lt h] at hq; omega
                  · omega
                have HQ := Lib.hid hq; clear hq
                have HE := Lib.hid hend; clear hend
                clear q2
                go_wp2_with fail
                go_roundw
                case rel => exact ⟨i + 1, by omega, by go_num, allB_succ HS.out (side_true HP.out (by
                  have h := HE.out
                  rw [show k - (i + 2) = j + 1 from by omega]
                  exact allB_succ HJ.out (by unfold meetF; rw [HQ.out]; simp))), hx1.trans hy⟩
                case measure => simp [intOf]; omega
              · have hqb : (((i : Int) + 2 + j + 1) % k != i) = true := by
                  have : ¬ ((i : Int) + 2 + j + 1) % k = i := by omega
                  simp [this]
                have HQ := Lib.hid hq; clear hq
                obtain ⟨f0, f1⟩ := (HA.out.ext (hx1.trans hy)).at1 (k := i + 2 + j) (by rw [HL.out]; exact hjk)
                obtain ⟨f2, f3⟩ := (HA.out.ext (hx1.trans hy)).at1 (k := (i + 2 + j + 1) % k) (by rw [HL.out]; exact Nat.mod_lt _ (by omega))
                have hn0 : 0 ≤ (i : Int) + 2 + j := by omega
                have hn1 : ((i : Int) + 2 + j).toNat = i + 2 + j := by omega
                go_wp2
                have d0 := fun z : After wq => After.cell g0 z
                have d1 := fun z : After wq => After.cell g1 z
                have d2 := fun z : After wq => After.cell g2 z
                have d3 := fun z : After wq => After.cell g3 z
                have d4 := fun z : After wq => After.cell f0 z
                have d5 := fun z : After wq => After.cell f1 z
                have d6 := fun z : After wq => After.cell f2 z
                have d7 := fun z : After wq => After.cell f3 z
                refine region_ext (by kernel_rfl) (by kernel_rfl) ?_
                repeat (go_big_quiet_step (
                  (go_at_call 45; exact after_call (meet_any (gS l i) (gS l ((i + 1) % k)) (gS l (i + 2 + j)) (gS l ((i + 2 + j + 1) % k)) _))))
                refine wpQuiet_nil ?_
                rintro w2 ⟨⟨_, he⟩, rfl⟩
                clear d0 d1 d2 d3 d4 d5 d6 d7
                cases hp : meetB (gS l i) (gS l ((i + 1) % k)) (gS l (i + 2 + j)) (gS l ((i + 2 + j + 1) % k))
                · have HM := Lib.hid hp; clear hp
                  go_wp2_with fail
                  go_roundw
                  case rel => exact ⟨j + 1, by omega, by go_num, allB_succ HJ.out (by unfold meetF; rw [HM.out]; simp), hy.trans he⟩
                  case measure => simp [intOf]; omega
                · have HM := Lib.hid hp; clear hp
                  go_wp2_with fail
                  go_ret
                  exact ⟨ret_bool (by
                    unfold simpleB
                    rw [allB_false (k := i) (n := l.length) (f := sideF l l.length) (by rw [HL.out]; exact hlt) (by
                      unfold sideF
                      rw [HL.out, allB_false (k := j) (by omega) (by unfold meetF; rw [HM.out]; simp; exact HQ.out)]; simp)]
                    simp), (hx1.trans hy).trans he⟩
            · have hjk' : ¬ (i : Int) + 2 + j < k := by omega
              go_wp2_with fail
              go_roundw
              case rel => exact ⟨i + 1, by omega, by go_num, allB_succ HS.out (side_true HP.out (by
                have h : k - (i + 2) = j := by omega
                rw [h]; exact HJ.out)), hx1.trans hy⟩
              case measure => simp [intOf]; omega
        · go_wp2_with fail
          go_ret
          exact ⟨ret_bool (by
            obtain rfl : i = k := by omega
            unfold simpleB
            rw [HL.out, HT.out, HS.out]; rfl), hx⟩
end Go.Proofs.Ytnfchkkokgmliaa
namespace Go.Proofs.Ytnfchkkokgmliaa
open Go.RowKit
def stepF (l : List Spot) (i : Nat) : Bool := !decide (gS l i = gS l (i + 1))
def lcheck (l : List Spot) : Int := if 40 < l.length then 5 else if l.length < 2 then 11 else if l.any outB = true then 3 else if allB (stepF l) (l.length - 1) = true then 0 else 11
def pcheck (l : List Spot) : Int := if 40 < l.length then 5 else if l.length < 3 then 11 else if l.any outB = true then 3 else if simpleB l = true then 0 else 11

set_option maxHeartbeats 400000 in
theorem pcheck_any (A : Option Addr) (n c : Nat) (l : List Spot) (w : World) (ha : SpotsAt w A l) (hl : l.length = n) (hn : n ≤ c) :
    Calls Try.prog 29 #[.slice A n c] w fun e w' => e = .returned (.int .i64 (pcheck l)) ∧ Ext w w' := by
  have HL := Lib.hid hl; clear hl
  have HA := Lib.hid ha; clear ha
  by_cases h40 : 40 < n
  · go_enter Try.func29, Try.ntmps29
    go_wp2_with fail
    go_ret
    exact ⟨ret_int (by unfold pcheck; rw [HL.out, if_pos h40]), Ext.refl _⟩
  by_cases h3 : n < 3
  · go_enter Try.func29, Try.ntmps29
    go_wp2_with fail
    go_ret
    exact ⟨ret_int (by unfold pcheck; rw [HL.out, if_neg (by omega), if_pos h3]), Ext.refl _⟩
  go_enter Try.func29, Try.ntmps29
  go_wp2_with fail
  refine (containsFunc_p A n c l w HA.out HL.out (by omega)).mono ?_
  rintro e w1 ⟨rfl, hx⟩
  cases hp : l.any outB
  case true =>
    have HP := Lib.hid hp; clear hp
    go_wp2_with fail
    go_ret
    exact ⟨ret_int (by unfold pcheck; rw [HL.out, if_neg (by omega), if_neg (by omega), if_pos HP.out]), hx⟩
  have HP := Lib.hid hp; clear hp
  go_wp2_with fail
  refine (simple_any A n c l w1 (HA.out.ext hx) HL.out hn (by omega)).mono ?_
  rintro e w2 ⟨rfl, hx2⟩
  cases hp : simpleB l
  · have HS := Lib.hid hp; clear hp
    go_wp2_with fail
    go_ret
    exact ⟨ret_int (by unfold pcheck; rw [HL.out, if_neg (by omega), if_neg (by omega), if_neg (by rw [HP.out]; decide), if_neg (by rw [HS.out]; decide)]), hx.trans hx2⟩
  · have HS := Lib.hid hp; clear hp
    go_wp2_with fail
    go_ret
    exact ⟨ret_int (by unfold pcheck; rw [HL.out, if_neg (by omega), if_neg (by omega), if_neg (by rw [HP.out]; decide), if_pos HS.out]), hx.trans hx2⟩

set_option maxHeartbeats 400000 in
theorem lcheck_any (A : Option Addr) (n c : Nat) (l : List Spot) (w : World) (ha : SpotsAt w A l) (hl : l.length = n) :
    Calls Try.prog 20 #[.slice A n c] w fun e w' => e = .returned (.int .i64 (lcheck l)) ∧ Ext w w' := by
  have HL := Lib.hid hl; clear hl
  have HA := Lib.hid ha; clear ha
  by_cases h40 : 40 < n
  · go_enter Try.func20, Try.ntmps20
    go_wp2_with fail
    go_ret
    exact ⟨ret_int (by unfold lcheck; rw [HL.out, if_pos h40]), Ext.refl _⟩
  by_cases h3 : n < 2
  · go_enter Try.func20, Try.ntmps20
    go_wp2_with fail
    go_ret
    exact ⟨ret_int (by unfold lcheck; rw [HL.out, if_neg (by omega), if_pos h3]), Ext.refl _⟩
  go_enter Try.func20, Try.ntmps20
  go_wp2_with fail
  refine (containsFunc_l A n c l w HA.out HL.out (by omega)).mono ?_
  rintro e w1 ⟨rfl, hx⟩
  cases hp : l.any outB
  case true =>
    have HP := Lib.hid hp; clear hp
    go_wp2_with fail
    go_ret
    exact ⟨ret_int (by unfold lcheck; rw [HL.out, if_neg (by omega), if_neg (by omega), if_pos HP.out]), hx⟩
  have HP := Lib.hid hp; clear hp
  go_wp2_with fail
  go_loopw [15] (fun i wr => ∃ k : Nat, k ≤ n - 1 ∧ i = .int .i64 k ∧ allB (stepF l) k = true ∧ Ext w wr) (fun i _ => n - (intOf i).toNat)
  case atStart => exact ⟨0, Nat.zero_le _, rfl, rfl, hx⟩
  case round =>
    clear hx
    obtain ⟨k, hk, rfl, ht, hx⟩ := hrel
    have HT := Lib.hid ht; clear ht
    by_cases hlt : k < n - 1
    · have hlt' : (k : Int) < (n : Int) - 1 := by omega
      obtain ⟨b, off, rfl, hc0, hc1⟩ := (HA.out.ext hx).g (k := k) (by rw [HL.out]; omega)
      obtain ⟨hd0, hd1⟩ := (HA.out.ext hx).at1 (k := k + 1) (by rw [HL.out]; omega)
      have hs1 : IntKind.i64.wrap ((k : Int) + 1) = k + 1 := IntWalk.i64_in _ (by omega)
      have hs2 : ((k : Int) + 1).toNat = k + 1 := by omega
      have hs3 : (k : Int) + 1 < n := by omega
      have hs4 : 0 ≤ (k : Int) + 1 := by omega
      have hp0 := eqS_dec (gS l k) (gS l (k + 1))
      cases hp : eqS (gS l k).1 (gS l k).2 (gS l (k + 1)).1 (gS l (k + 1)).2
      · have HS : Hid (stepF l k = true) := by show stepF l k = true; unfold stepF; rw [← hp0, hp]; rfl
        clear hp0
        go_wp2
        go_quiet (fail)
        clear hs1 hs2 hs4
        go_wp2
        go_roundw
        case rel => exact ⟨k + 1, by omega, by go_num, allB_succ HT.out HS.out, hx.drewN _⟩
        case measure => simp [intOf]; omega
      · have HS : Hid (stepF l k = false) := by show stepF l k = false; unfold stepF; rw [← hp0, hp]; rfl
        clear hp0
        go_wp2
        go_quiet (fail)
        clear hs1 hs2 hs4
        go_wp2
        go_ret
        exact ⟨ret_int (by
          unfold lcheck
          rw [HL.out, if_neg (by omega), if_neg (by omega), if_neg (by rw [HP.out]; decide), if_neg]
          rw [allB_false hlt HS.out]; decide), hx.drewN _⟩
    · have hlt' : ¬ (k : Int) < (n : Int) - 1 := by omega
      go_wp2
      go_ret
      exact ⟨ret_int (by
          unfold lcheck
          rw [HL.out, if_neg (by omega), if_neg (by omega), if_neg (by rw [HP.out]; decide), if_pos]
          obtain rfl : k = n - 1 := by omega
          exact HT.out), hx⟩
end Go.Proofs.Ytnfchkkokgmliaa
