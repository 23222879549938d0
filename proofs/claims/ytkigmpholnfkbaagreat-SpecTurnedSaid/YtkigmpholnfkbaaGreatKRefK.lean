/- the reference: garmentref11.Check; garmentref17.digit, Name; garmentref20.named -/
import Derived.IntWalk
import Derived.Deep.CutRange
import Derived.Deep.RegionHeld3
import Derived.Test.YtkigmpholnfkbaaGreatKCyc
import Derived.Test.YtkigmpholnfkbaaGreatKWd
/- Plain: the reference's test for simple polygons is the program's. No program in sight. -/
namespace Go.Proofs.YtkigmpholnfkbaaGreat
open Go.RowKit
def rsideF (l : List Spot) (n i : Nat) : Bool := !decide (gS l i = gS l ((i + 1) % n)) && (!onB (gS l i) (gS l ((i + 1) % n)) (gS l ((i + 2) % n)) && (!onB (gS l ((i + 1) % n)) (gS l ((i + 2) % n)) (gS l i) && allB (meetF l n i) (n - (i + 2))))
def rsimpleB (l : List Spot) : Bool := allB (rsideF l l.length) l.length
theorem same_sign {u v : Int} (h : 0 ≤ u * v) : (0 ≤ u ∧ 0 ≤ v) ∨ (u ≤ 0 ∧ v ≤ 0) := by
  rcases Int.lt_or_le u 0 with h1 | h1 <;> rcases Int.lt_or_le v 0 with h2 | h2
  · exact .inr ⟨by omega, by omega⟩
  · by_cases h3 : v = 0
    · exact .inr ⟨by omega, by omega⟩
    · have := Int.mul_neg_of_neg_of_pos h1 (show 0 < v by omega)
      omega
  · by_cases h3 : u = 0
    · exact .inr ⟨by omega, by omega⟩
    · have := Int.mul_neg_of_pos_of_neg (show 0 < u by omega) h2
      omega
  · exact .inl ⟨h1, h2⟩
theorem box_mul {u v : Int} (h0 : min u 0 ≤ v) (h1 : v ≤ max u 0) : 0 ≤ u * v ∧ (u * v = 0 → v = 0) := by
  rcases Int.le_total 0 u with h | h
  · have hv : 0 ≤ v := by omega
    refine ⟨Int.mul_nonneg h hv, fun e => ?_⟩
    rcases Int.mul_eq_zero.1 e with e | e <;> omega
  · have hv : v ≤ 0 := by omega
    refine ⟨Int.mul_nonneg_of_nonpos_of_nonpos h hv, fun e => ?_⟩
    rcases Int.mul_eq_zero.1 e with e | e <;> omega
theorem box_dot (u1 u2 v1 v2 : Int) (hc : u2 * v1 = u1 * v2) (hu : ¬ (u1 = 0 ∧ u2 = 0)) (hv : ¬ (v1 = 0 ∧ v2 = 0)) :
    0 < u1 * v1 + u2 * v2 ↔ ((min u1 0 ≤ v1 ∧ v1 ≤ max u1 0 ∧ min u2 0 ≤ v2 ∧ v2 ≤ max u2 0) ∨ (min v1 0 ≤ u1 ∧ u1 ≤ max v1 0 ∧ min v2 0 ≤ u2 ∧ u2 ≤ max v2 0)) := by
  constructor
  · intro h
    have hpq : 0 ≤ (u1 * v1) * (u2 * v2) := by
      have e : (u1 * v1) * (u2 * v2) = (u1 * v2) * (u1 * v2) := by
        rw [show (u1 * v1) * (u2 * v2) = (u1 * v2) * (u2 * v1) from by ac_rfl, hc]
      rw [e]
      rcases Int.le_total 0 (u1 * v2) with h | h
      · exact Int.mul_nonneg h h
      · exact Int.mul_nonneg_of_nonpos_of_nonpos h h
    have hp : 0 ≤ u1 * v1 ∧ 0 ≤ u2 * v2 := by
      rcases same_sign hpq with h' | h' <;> omega
    have s1 := same_sign hp.1
    have s2 := same_sign hp.2
    have hn : u2.natAbs * v1.natAbs = u1.natAbs * v2.natAbs := by rw [← Int.natAbs_mul, ← Int.natAbs_mul, hc]
    by_cases h1 : v1.natAbs ≤ u1.natAbs
    · by_cases h2 : v2.natAbs ≤ u2.natAbs
      · left; omega
      · right
        have h3 : u1.natAbs ≤ v1.natAbs := by
          rcases Nat.lt_or_ge v1.natAbs u1.natAbs with h3 | h3
          · have := Nat.mul_lt_mul'' (show u2.natAbs < v2.natAbs by omega) h3
            rw [hn, Nat.mul_comm] at this
            omega
          · exact h3
        omega
    · right
      have h3 : u2.natAbs ≤ v2.natAbs := by
        rcases Nat.lt_or_ge v2.natAbs u2.natAbs with h3 | h3
        · have := Nat.mul_lt_mul'' h3 (show u1.natAbs < v1.natAbs by omega)
          rw [hn, Nat.mul_comm] at this
          omega
        · exact h3
      omega
  · rintro (⟨h1, h2, h3, h4⟩ | ⟨h1, h2, h3, h4⟩)
    · obtain ⟨a0, a1⟩ := box_mul h1 h2
      obtain ⟨b0, b1⟩ := box_mul h3 h4
      rcases Int.lt_or_le 0 (u1 * v1 + u2 * v2) with h | h
      · exact h
      · exact absurd ⟨a1 (by omega), b1 (by omega)⟩ hv
    · obtain ⟨a0, a1⟩ := box_mul h1 h2
      obtain ⟨b0, b1⟩ := box_mul h3 h4
      rw [Int.mul_comm u1, Int.mul_comm u2]
      rcases Int.lt_or_le 0 (v1 * u1 + v2 * u2) with h | h
      · exact h
      · exact absurd ⟨a1 (by omega), b1 (by omega)⟩ hu
theorem crossX_uv (a b c : Spot) : crossX a b c = (a.2 - b.2) * (c.1 - b.1) - (a.1 - b.1) * (c.2 - b.2) := by
  unfold crossX
  rw [show c.2 - a.2 = (c.2 - b.2) - (a.2 - b.2) from by omega, show c.1 - a.1 = (c.1 - b.1) - (a.1 - b.1) from by omega, show b.1 - a.1 = -(a.1 - b.1) from by omega, show b.2 - a.2 = -(a.2 - b.2) from by omega]
  generalize a.1 - b.1 = u1
  generalize a.2 - b.2 = u2
  generalize c.1 - b.1 = v1
  generalize c.2 - b.2 = v2
  rw [Int.mul_sub, Int.mul_sub, Int.neg_mul, Int.neg_mul, Int.neg_mul, Int.neg_mul, Int.mul_comm u1 u2]
  omega
theorem crossX_cyc (a b c : Spot) : crossX b c a = crossX a b c := by
  rw [crossX_uv a b c]
  unfold crossX
  rw [Int.mul_comm (c.2 - b.2), Int.mul_comm (c.1 - b.1)]
theorem fold_on {a b c : Spot} (ha : inB a) (hb : inB b) (hc : inB c) (hab : a ≠ b) (hbc : b ≠ c) : foldB a b c = (onB a b c || onB b c a) := by
  have e1 := on_iff ha hb hc
  have e2 := on_iff hb hc ha
  rw [fold_eq ha hb hc, Bool.eq_iff_iff, Bool.or_eq_true, e1, e2, Bool.and_eq_true]
  unfold onX
  rw [crossX_cyc a b c]
  simp only [beq_iff_eq, decide_eq_true_eq]
  have hX := crossX_uv a b c
  have hu : ¬ (a.1 - b.1 = 0 ∧ a.2 - b.2 = 0) := fun h => hab (Prod.ext (by omega) (by omega))
  have hv : ¬ (c.1 - b.1 = 0 ∧ c.2 - b.2 = 0) := fun h => hbc (Prod.ext (by omega) (by omega))
  by_cases h0 : crossX a b c = 0
  · rw [h0] at hX
    have h := box_dot (a.1 - b.1) (a.2 - b.2) (c.1 - b.1) (c.2 - b.2) (by omega) hu hv
    unfold dotX boxX
    rw [h]
    simp only [h0, true_and]
    constructor
    · rintro (h | h)
      · left; omega
      · right; omega
    · rintro (h | h)
      · left; omega
      · right; omega
  · simp [h0]
theorem on_self {a b : Spot} (ha : inB a) (hb : inB b) : onB a b a = true := by
  rw [on_iff ha hb ha]
  refine ⟨by unfold crossX; simp, ?_⟩
  unfold boxX; omega
theorem rsimple_eq {l : List Spot} (hB : AllB l) (h3 : 3 ≤ l.length) : rsimpleB l = simpleB l := by
  have hl : 0 < l.length := by omega
  have hin : ∀ k, inB (gS l (k % l.length)) := fun k => hB _ (Nat.mod_lt _ hl)
  have hmod : ∀ i, (i % l.length + 1) % l.length = (i + 1) % l.length := fun i => by rw [Nat.mod_add_mod]
  rw [Bool.eq_iff_iff]
  constructor
  · intro h
    unfold rsimpleB at h
    rw [allB_iff] at h
    have hne : ∀ i, i < l.length → gS l i ≠ gS l ((i + 1) % l.length) := fun i hi e => by
      have := h i hi
      unfold rsideF at this
      rw [Bool.and_eq_true] at this
      simp [← e] at this
    have hmt : ∀ i k, i + 2 ≤ k → k < l.length → (k + 1) % l.length ≠ i → meetB (gS l i) (gS l ((i + 1) % l.length)) (gS l k) (gS l ((k + 1) % l.length)) = false := fun i k hik hk hn => by
      have := h i (by omega)
      unfold rsideF at this
      simp only [Bool.and_eq_true] at this
      have h2 := (allB_iff _ _).1 this.2.2.2 (k - (i + 2)) (by omega)
      unfold meetF at h2
      rw [show i + 2 + (k - (i + 2)) = k from by omega, Bool.or_eq_true] at h2
      rcases h2 with h2 | h2
      · exact absurd (by simpa using h2) hn
      · simpa using h2
    unfold simpleB
    rw [Bool.and_eq_true, allB_iff, allB_iff]
    refine ⟨fun i hi => ?_, fun i hi => ?_⟩
    · unfold dupF
      simp only [Bool.not_eq_true', List.any_eq_false]
      intro s hs he
      obtain ⟨j, hj, rfl⟩ := List.mem_take_iff_getElem.1 hs
      have hj' : j < i := by omega
      have e : gS l i = gS l j := by rw [gS_eq (show j < l.length by omega)]; simpa using he
      by_cases h1 : i = j + 1
      · subst h1
        apply hne j (by omega)
        rw [Nat.mod_eq_of_lt hi, e]
      · by_cases h2 : (i + 1) % l.length = j
        · apply hne i hi
          rw [h2, e]
        · have hm := hmt j i (by omega) hi h2
          have := on_self (hB j (by omega)) (hin (j + 1))
          unfold meetB at hm
          rw [e, this] at hm
          simp at hm
    · have hi' := h i hi
      unfold rsideF at hi'
      simp only [Bool.and_eq_true, Bool.not_eq_true'] at hi'
      unfold sideF
      rw [Bool.and_eq_true]
      refine ⟨?_, hi'.2.2.2⟩
      have hn2 := hne ((i + 1) % l.length) (Nat.mod_lt _ hl)
      rw [hmod] at hn2
      rw [fold_on (hB i hi) (hin _) (hin _) (hne i hi) hn2, hi'.2.1, hi'.2.2.1]
      rfl
  · intro h
    have hX := (simple_iff hB h3).1 h
    unfold simpleB at h
    rw [Bool.and_eq_true, allB_iff, allB_iff] at h
    have hne : ∀ i, i < l.length → gS l i ≠ gS l ((i + 1) % l.length) := fun i hi e => by
      have := hX.a i (i + 1 : Nat) (by rw [cy_nat hi, cy_modn hl, e])
      rw [Int.emod_eq_of_lt (by omega) (by omega)] at this
      have h2 : (((i + 1 : Nat) : Int)) % l.length = ((i + 1) % l.length : Nat) := by simp
      rw [h2] at this
      have h3' : (i + 1) % l.length = i := by omega
      rcases Nat.lt_or_ge (i + 1) l.length with hh | hh
      · rw [Nat.mod_eq_of_lt hh] at h3'; omega
      · rw [show i + 1 = l.length from by omega, Nat.mod_self] at h3'; omega
    unfold rsimpleB
    rw [allB_iff]
    intro i hi
    have hi' := h.2 i hi
    unfold sideF at hi'
    rw [Bool.and_eq_true] at hi'
    have hn2 := hne ((i + 1) % l.length) (Nat.mod_lt _ hl)
    rw [hmod] at hn2
    have hf := hi'.1
    rw [fold_on (hB i hi) (hin _) (hin _) (hne i hi) hn2] at hf
    simp only [Bool.not_eq_true', Bool.or_eq_false_iff] at hf
    unfold rsideF
    rw [hf.1, hf.2, hi'.2, decide_eq_false (hne i hi)]
    rfl
end Go.Proofs.YtkigmpholnfkbaaGreat
/- the reference: garmentref11.Cross, sign, Between, meet, Within -/
namespace Go.Proofs.YtkigmpholnfkbaaGreat
open Go.RowKit
theorem rcross_any (a b c : Spot) (w : World) :
    Calls Tryz.prog 144 #[SV a, SV b, SV c] w fun e w' => e = .returned (.int .i64 (cross a b c)) ∧ Ext w w' := by
  obtain ⟨ax, ay⟩ := a; obtain ⟨bx, b_y⟩ := b; obtain ⟨cx, cy⟩ := c
  go_enter Tryz.func144, Tryz.ntmps144
  go_wp2
  go_ret
  exact ⟨rfl, (((Ext.refl _).alloc _).alloc _).alloc _⟩
theorem rsign_any (n : Int) (w : World) :
    Calls Tryz.prog 145 #[.int .i64 n] w fun e w' => e = .returned (.int .i64 (cmpI n 0)) ∧ w = w' := by
  by_cases h1 : 0 < n
  · go_enter Tryz.func145, Tryz.ntmps145
    go_wp2
    go_ret
    exact ⟨ret_int (by unfold cmpI; rw [if_neg (by omega), if_pos h1]), rfl⟩
  · by_cases h2 : n < 0
    · go_enter Tryz.func145, Tryz.ntmps145
      go_wp2
      go_ret
      exact ⟨ret_int (by unfold cmpI; rw [if_pos h2]), rfl⟩
    · go_enter Tryz.func145, Tryz.ntmps145
      go_wp2
      go_ret
      exact ⟨ret_int (by unfold cmpI; rw [if_neg (by omega), if_neg (by omega)]), rfl⟩
set_option maxHeartbeats 400000 in
theorem between_any (a b p : Spot) (w : World) :
    Calls Tryz.prog 131 #[SV a, SV b, SV p] w fun e w' => e = .returned (.bool (onB a b p)) ∧ Ext w w' := by
  obtain ⟨ax, ay⟩ := a; obtain ⟨bx, b_y⟩ := b; obtain ⟨px, py⟩ := p
  go_enter Tryz.func131, Tryz.ntmps131
  go_wp2_with fail
  refine (rcross_any (ax, ay) (bx, b_y) (px, py) _).mono ?_
  rintro e w1 ⟨rfl, he⟩
  have hc : ∀ k j, k < w.heap.size + 3 → w1.cell? ⟨k, j, none⟩ = _ := fun k j hk => ext_cells he (by simp; omega)
  by_cases h0 : cross (ax, ay) (bx, b_y) (px, py) = 0
  · have hb0 : (cross (ax, ay) (bx, b_y) (px, py) == 0) = true := by simp [h0]
    clear h0
    go_wp2
    all_goals
      go_ret
      exact ⟨ret_bool (by rw [Bool.eq_iff_iff]; simp [onB, hb0] <;> omega), (((Ext.refl _).alloc _).alloc _).alloc _ |>.trans he⟩
  · have hb0 : (cross (ax, ay) (bx, b_y) (px, py) == 0) = false := by simp [h0]
    clear h0
    go_wp2
    go_ret
    exact ⟨ret_bool (by simp [onB, hb0]), (((Ext.refl _).alloc _).alloc _).alloc _ |>.trans he⟩
theorem rwithin_any (s : Spot) (w : World) :
    Calls Tryz.prog 27 #[SV s, .int .i64 1048576] w fun e w' => e = .returned (.bool (!outB s)) ∧ Ext w w' := by
  obtain ⟨x, y⟩ := s
  go_enter Tryz.func27, Tryz.ntmps27
  go_wp2
  all_goals
    go_ret
    exact ⟨ret_bool (by rw [Bool.eq_iff_iff]; simp [outB] <;> omega), (Ext.refl _).alloc _⟩
set_option maxRecDepth 100000 in
set_option maxHeartbeats 2000000 in
theorem rmeet_any (a b c d : Spot) (w : World) :
    Calls Tryz.prog 132 #[SV a, SV b, SV c, SV d] w fun e w' => e = .returned (.bool (meetB a b c d)) ∧ Ext w w' := by
  obtain ⟨ax, ay⟩ := a; obtain ⟨bx, b_y⟩ := b; obtain ⟨cx, cy⟩ := c; obtain ⟨dx, dy⟩ := d
  go_enter Tryz.func132, Tryz.ntmps132
  go_wp2_with fail
  refine (between_any (ax, ay) (bx, b_y) (cx, cy) _).mono ?_
  rintro e w1 ⟨rfl, he1⟩
  have hx1 : Ext w w1 := (((((Ext.refl w).alloc _).alloc _).alloc _).alloc _).trans he1
  have hc1 : ∀ k j, k < w.heap.size + 4 → w1.cell? ⟨k, j, none⟩ = _ := fun k j hk => ext_cells he1 (by simp; omega)
  have hz1 : w.heap.size + 4 ≤ w1.heap.size := by have := he1.size; simp at this; omega
  cases h1 : onB (ax, ay) (bx, b_y) (cx, cy)
  rotate_left
  · have H := Lib.hid h1; clear h1
    go_wp2_with fail
    go_ret
    exact ⟨ret_bool (by simp [meetB, H.out]), hx1⟩
  have H1 := Lib.hid h1; clear h1
  go_wp2_with fail
  refine (between_any (ax, ay) (bx, b_y) (dx, dy) _).mono ?_
  rintro e w2 ⟨rfl, he2⟩
  have hx2 : Ext w w2 := hx1.trans he2
  have hc2 : ∀ k j, k < w.heap.size + 4 → w2.cell? ⟨k, j, none⟩ = _ := fun k j hk => (ext_cells he2 (Nat.lt_of_lt_of_le hk hz1)).trans (hc1 k j hk)
  have hz2 : w.heap.size + 4 ≤ w2.heap.size := by have := he2.size; omega
  cases h2 : onB (ax, ay) (bx, b_y) (dx, dy)
  rotate_left
  · have H := Lib.hid h2; clear h2
    go_wp2_with fail
    go_ret
    exact ⟨ret_bool (by simp [meetB, H.out]), hx2⟩
  have H2 := Lib.hid h2; clear h2
  go_wp2_with fail
  refine (between_any (cx, cy) (dx, dy) (ax, ay) _).mono ?_
  rintro e w3 ⟨rfl, he3⟩
  have hx3 : Ext w w3 := hx2.trans he3
  have hc3 : ∀ k j, k < w.heap.size + 4 → w3.cell? ⟨k, j, none⟩ = _ := fun k j hk => (ext_cells he3 (Nat.lt_of_lt_of_le hk hz2)).trans (hc2 k j hk)
  have hz3 : w.heap.size + 4 ≤ w3.heap.size := by have := he3.size; omega
  cases h3 : onB (cx, cy) (dx, dy) (ax, ay)
  rotate_left
  · have H := Lib.hid h3; clear h3
    go_wp2_with fail
    go_ret
    exact ⟨ret_bool (by simp [meetB, H.out]), hx3⟩
  have H3 := Lib.hid h3; clear h3
  go_wp2_with fail
  refine (between_any (cx, cy) (dx, dy) (bx, b_y) _).mono ?_
  rintro e w4 ⟨rfl, he4⟩
  have hx4 : Ext w w4 := hx3.trans he4
  have hc4 : ∀ k j, k < w.heap.size + 4 → w4.cell? ⟨k, j, none⟩ = _ := fun k j hk => (ext_cells he4 (Nat.lt_of_lt_of_le hk hz3)).trans (hc3 k j hk)
  have hz4 : w.heap.size + 4 ≤ w4.heap.size := by have := he4.size; omega
  cases h4 : onB (cx, cy) (dx, dy) (bx, b_y)
  rotate_left
  · have H := Lib.hid h4; clear h4
    go_wp2_with fail
    go_ret
    exact ⟨ret_bool (by simp [meetB, H.out]), hx4⟩
  have H4 := Lib.hid h4; clear h4
  go_wp2_with fail
  have c0 : w4.cell? ⟨w.heap.size, 0, none⟩ = some (.int .i64 ax) := by rw [hc4 _ _ (by omega)]; simp [go_sem]
  have c1 : w4.cell? ⟨w.heap.size, 1, none⟩ = some (.int .i64 ay) := by rw [hc4 _ _ (by omega)]; simp [go_sem]
  have c2 : w4.cell? ⟨w.heap.size + 1, 0, none⟩ = some (.int .i64 bx) := by rw [hc4 _ _ (by omega)]; simp [go_sem]
  have c3 : w4.cell? ⟨w.heap.size + 1, 1, none⟩ = some (.int .i64 b_y) := by rw [hc4 _ _ (by omega)]; simp [go_sem]
  have c4 : w4.cell? ⟨w.heap.size + 1 + 1, 0, none⟩ = some (.int .i64 cx) := by rw [hc4 _ _ (by omega)]; simp [go_sem]
  have c5 : w4.cell? ⟨w.heap.size + 1 + 1, 1, none⟩ = some (.int .i64 cy) := by rw [hc4 _ _ (by omega)]; simp [go_sem]
  have c6 : w4.cell? ⟨w.heap.size + 1 + 1 + 1, 0, none⟩ = some (.int .i64 dx) := by rw [hc4 _ _ (by omega)]; simp [go_sem]
  have c7 : w4.cell? ⟨w.heap.size + 1 + 1 + 1, 1, none⟩ = some (.int .i64 dy) := by rw [hc4 _ _ (by omega)]; simp [go_sem]
  have HX4 := Lib.hid hx4
  clear hc1 hc2 hc3 hc4 hx1 hx2 hx3 hx4 hz1 hz2 hz3 hz4 he1 he2 he3 he4
  have d0 := fun z : After w4 => After.cell c0 z
  have d1 := fun z : After w4 => After.cell c1 z
  have d2 := fun z : After w4 => After.cell c2 z
  have d3 := fun z : After w4 => After.cell c3 z
  have d4 := fun z : After w4 => After.cell c4 z
  have d5 := fun z : After w4 => After.cell c5 z
  have d6 := fun z : After w4 => After.cell c6 z
  have d7 := fun z : After w4 => After.cell c7 z
  obtain ⟨s1, hs1⟩ : ∃ s1, s1 = cmpI (cross (ax, ay) (bx, b_y) (cx, cy)) 0 := ⟨_, rfl⟩
  obtain ⟨s2, hs2⟩ : ∃ s2, s2 = cmpI (cross (ax, ay) (bx, b_y) (dx, dy)) 0 := ⟨_, rfl⟩
  have HS1 := Lib.hid hs1; have HS2 := Lib.hid hs2; clear hs1 hs2
  have HSG1 : Hid (∀ w : World, Calls Tryz.prog 145 #[.int .i64 (cross (ax, ay) (bx, b_y) (cx, cy))] w fun e w' => e = .returned (.int .i64 s1) ∧ w = w') := fun w => by rw [HS1.out]; exact rsign_any _ w
  have HSG2 : Hid (∀ w : World, Calls Tryz.prog 145 #[.int .i64 (cross (ax, ay) (bx, b_y) (dx, dy))] w fun e w' => e = .returned (.int .i64 s2) ∧ w = w') := fun w => by rw [HS2.out]; exact rsign_any _ w
  have HP1 : Hid (partB (ax, ay) (bx, b_y) (cx, cy) (dx, dy) = decide (wrap64 (s1 * s2) < 0)) := by show _ = _; unfold partB; rw [← HS1.out, ← HS2.out]
  cases hg : decide (wrap64 (s1 * s2) < 0)
  · have HG : Hid (decide (wrap64 (s1 * s2) < 0) = false) := hg
    refine region_ext (by kernel_rfl) (by kernel_rfl) ?_
    repeat (go_big_quiet_step (first
      | (go_at_call 144; exact after_call (rcross_any (ax, ay) (bx, b_y) (_, _) _))
      | (go_at_call 145; (with_reducible exact after_same (HSG1.out _)))
      | (go_at_call 145; (with_reducible exact after_same (HSG2.out _)))))
    refine wpQuiet_nil ?_
    rintro w5 ⟨⟨_, he⟩, rfl⟩
    clear hg
    go_wp2_with fail
    go_ret
    exact ⟨ret_bool (by simp [meetB, H1.out, H2.out, H3.out, H4.out, HP1.out, HG.out]), HX4.out.trans he⟩
  · have HG : Hid (decide (wrap64 (s1 * s2) < 0) = true) := hg
    refine region_ext (by kernel_rfl) (by kernel_rfl) ?_
    repeat (go_big_quiet_step (first
      | (go_at_call 144; exact after_call (rcross_any (_, _) (_, _) (_, _) _))
      | (go_at_call 145; (with_reducible exact after_same (HSG1.out _)))
      | (go_at_call 145; (with_reducible exact after_same (HSG2.out _)))
      | (go_at_call 145; exact after_same (rsign_any _ _))))
    refine wpQuiet_nil ?_
    rintro w5 ⟨⟨_, he⟩, rfl⟩
    clear hg
    go_wp2_with fail
    go_ret
    exact ⟨ret_bool (by simp [meetB, H1.out, H2.out, H3.out, H4.out, HP1.out, HG.out]; simp [partB]), HX4.out.trans he⟩
end Go.Proofs.YtkigmpholnfkbaaGreat
/- the reference: garmentref11.simple, Check -/
namespace Go.Proofs.YtkigmpholnfkbaaGreat
open Go.RowKit
theorem rside_true {l : List Spot} {n i : Nat} (h0 : eqS (gS l i).1 (gS l i).2 (gS l ((i + 1) % n)).1 (gS l ((i + 1) % n)).2 = false) (h1 : onB (gS l i) (gS l ((i + 1) % n)) (gS l ((i + 2) % n)) = false) (h2 : onB (gS l ((i + 1) % n)) (gS l ((i + 2) % n)) (gS l i) = false) (h3 : allB (meetF l n i) (n - (i + 2)) = true) : rsideF l n i = true := by
  unfold rsideF; rw [← eqS_dec, h0, h1, h2, h3]; rfl
set_option maxRecDepth 100000 in
set_option maxHeartbeats 3200000 in
theorem rsimple_any (A : Option Addr) (n c : Nat) (l : List Spot) (w : World) (ha : SpotsAt w A l) (hl : l.length = n) (hn' : n ≤ 1000) :
    Calls Tryz.prog 114 #[.slice A n c] w fun e w' => e = .returned (.bool (rsimpleB l)) ∧ Ext w w' := by
  have HL := Lib.hid hl; clear hl
  have HA := Lib.hid ha; clear ha
  go_enter Tryz.func114, Tryz.ntmps114
  go_wp2_with fail
  go_loopw [4] (fun i wr => ∃ k : Nat, k ≤ n ∧ i = .int .i64 k ∧ allB (rsideF l n) k = true ∧ Ext w wr) (fun i _ => n - (intOf i).toNat)
  case atStart => exact ⟨0, Nat.zero_le _, rfl, rfl, Ext.refl _⟩
  case round =>
    obtain ⟨i, hi, rfl, hs, hx⟩ := hrel
    have HS := Lib.hid hs; have HX := Lib.hid hx; clear hs hx
    by_cases hlt : i < n
    · have hil : i < l.length := by rw [HL.out]; exact hlt
      have hm1 : (i + 1) % n < n := Nat.mod_lt _ (by omega)
      have hm2 : (i + 2) % n < n := Nat.mod_lt _ (by omega)
      obtain ⟨b, off, hA, hc0, hc1⟩ := (HA.out.ext HX.out).g hil
      subst hA
      obtain ⟨hd0, hd1⟩ := (HA.out.ext HX.out).at1 (k := (i + 1) % n) (by rw [HL.out]; exact hm1)
      obtain ⟨hf0, hf1⟩ := (HA.out.ext HX.out).at1 (k := (i + 2) % n) (by rw [HL.out]; exact hm2)
      have hbl : b < wr.heap.size := cell_lt hc0
      obtain ⟨A0, hA0⟩ : ∃ A0, A0 = gS l i := ⟨_, rfl⟩
      obtain ⟨B0, hB0⟩ : ∃ B0, B0 = gS l ((i + 1) % n) := ⟨_, rfl⟩
      obtain ⟨C0, hC0⟩ : ∃ C0, C0 = gS l ((i + 2) % n) := ⟨_, rfl⟩
      rw [← hA0] at hc0 hc1
      rw [← hB0] at hd0 hd1
      rw [← hC0] at hf0 hf1
      have HA0 := Lib.hid hA0; have HB0 := Lib.hid hB0; have HC0 := Lib.hid hC0; clear hA0 hB0 hC0
      have hw1 : IntKind.i64.wrap ((i : Int) + 1) = (i : Int) + 1 := IntWalk.i64_in _ (by omega)
      have hnz : ((n : Int) == 0) = false := by simp; omega
      have hnp : 0 < n := by omega
      obtain ⟨hj0, hj1, hj2⟩ := mod_idx i n 1 1 rfl (by omega)
      have hnN : ¬ n = 0 := by omega
      have hj3 : ((i : Int) + 1).tmod n = (((i + 1) % n : Nat) : Int) := by rw [Int.tmod_eq_emod_of_nonneg (by omega)]; omega
      go_upto_region 5 with fail
      go_cut [5, 6] from 11 to 77 (fun pa pb wc => ∃ ab bb, pa = .pointer (some ⟨ab, 0, none⟩) ∧ pb = .pointer (some ⟨bb, 0, none⟩) ∧ Blk 62 wc ab [.int .i64 A0.1, .int .i64 A0.2] ∧ Blk 62 wc bb [.int .i64 B0.1, .int .i64 B0.2] ∧ Ext wr wc)
      case first =>
        have keep : ∀ W1 : World, Ext wr W1 → (Ext wr W1 ∧ W1.cell? ⟨b, off + i * 2, none⟩ = some (.int .i64 A0.1) ∧ W1.cell? ⟨b, off + i * 2 + 1, none⟩ = some (.int .i64 A0.2) ∧ W1.cell? ⟨b, off + (i + 1) % n * 2, none⟩ = some (.int .i64 B0.1) ∧ W1.cell? ⟨b, off + (i + 1) % n * 2 + 1, none⟩ = some (.int .i64 B0.2)) := fun W1 hx => ⟨hx, hx.cell hc0, hx.cell hc1, hx.cell hd0, hx.cell hd1⟩
        have KEEP := Lib.hid keep; clear keep hc0 hc1 hd0 hd1 hf0 hf1
        go_region_held3 (fun W => Ext wr W ∧ W.cell? ⟨b, off + i * 2, none⟩ = some (.int .i64 A0.1) ∧ W.cell? ⟨b, off + i * 2 + 1, none⟩ = some (.int .i64 A0.2) ∧ W.cell? ⟨b, off + (i + 1) % n * 2, none⟩ = some (.int .i64 B0.1) ∧ W.cell? ⟨b, off + (i + 1) % n * 2 + 1, none⟩ = some (.int .i64 B0.2))
          (first | assumption | exact KEEP.out _ (by repeat (first | exact Ext.refl _ | apply Ext.alloc | apply Ext.drew)) | fail)
          (first | fail)
        all_goals
          go_wp2_with fail
          go_meet
        all_goals
          refine ⟨_, _, rfl, rfl, ?_, ?_, ?_⟩
          · first
              | exact ((Blk.new' rfl).ext ((Ext.refl _).alloc _)).ext ((Ext.refl _).drew)
              | exact (Blk.new' (by simp)).ext ((Ext.refl _).drew)
              | fail
          · first
              | exact ((Blk.new' rfl).ext ((Ext.refl _).alloc _)).ext ((Ext.refl _).drew)
              | exact (Blk.new' (by simp)).ext ((Ext.refl _).drew)
              | fail
          · exact (((Ext.refl _).alloc _).alloc _).drew
      case rest =>
        obtain ⟨ab, bb, hpa, hpb, hBa, hBb, hxc⟩ := hcut
        subst hpa hpb
        have f0' := hxc.cell hf0
        have f1' := hxc.cell hf1
        have HBA := Lib.hid hBa; have HBB := Lib.hid hBb; have HXC := Lib.hid (HX.out.trans hxc)
        clear hc0 hc1 hd0 hd1 hf0 hf1 hj0 hj1 hj2 hj3 hw1 hbl hBa hBb hxc
        obtain ⟨a0, a1⟩ := blk2 HBA.out
        obtain ⟨b0, b1⟩ := blk2 HBB.out
        have hal : ab < wc.heap.size := HBA.out.lt
        have hbl : bb < wc.heap.size := HBB.out.lt
        have hcl : b < wc.heap.size := cell_lt f0'
        obtain ⟨hi0, hi1, hi2⟩ := mod_idx i n 2 2 rfl (by omega)
        go_upto_region 7 with fail
        refine wp_at fun W1 hW1 => ?_
        have hx1 : Ext wc W1 := by rw [hW1]; exact (Ext.refl _).alloc _
        have hBc : Blk 62 W1 wc.heap.size [.int .i64 C0.1, .int .i64 C0.2] := by rw [hW1]; exact Blk.new' rfl
        have HA1 := Lib.hid (HBA.out.ext hx1); have HB1 := Lib.hid (HBB.out.ext hx1); have HC1 := Lib.hid hBc; have HX1 := Lib.hid (HXC.out.trans hx1)
        clear hW1 hx1 hBc a0 a1 b0 b1 f0' f1' hi0 hi1 hi2 hal hbl hcl
        obtain ⟨cb, hcb⟩ : ∃ cb, cb = wc.heap.size := ⟨_, rfl⟩
        rw [← hcb] at HC1 ⊢
        clear hcb
        obtain ⟨a0, a1⟩ := blk2 HA1.out
        obtain ⟨b0, b1⟩ := blk2 HB1.out
        obtain ⟨c0, c1⟩ := blk2 HC1.out
        have hF : ∀ w', rsideF l n i = false → Ending.returned (.bool false) = .returned (.bool (rsimpleB l)) ∧ Ext w w' ∨ True := fun _ _ => .inr trivial
        clear hF
        cases hab : eqS A0.1 A0.2 B0.1 B0.2
        case true =>
          have HAB := Lib.hid hab
          go_wp2_with fail
          go_ret
          exact ⟨ret_bool (by unfold rsimpleB; rw [allB_false (k := i) hil (by unfold rsideF; rw [HL.out, ← HA0.out, ← HB0.out, ← eqS_dec, HAB.out]; rfl)]), HX1.out⟩
        have HAB := Lib.hid hab
        go_wp2_with fail
        refine (between_any A0 B0 C0 _).mono ?_
        rintro e w2 ⟨rfl, he2⟩
        have HA2 := Lib.hid (HA1.out.ext he2); have HB2 := Lib.hid (HB1.out.ext he2); have HC2 := Lib.hid (HC1.out.ext he2); have HX2 := Lib.hid (HX1.out.trans he2)
        clear he2 a0 a1 b0 b1 c0 c1 hab HA1 HB1 HC1 HX1
        obtain ⟨a0, a1⟩ := blk2 HA2.out
        obtain ⟨b0, b1⟩ := blk2 HB2.out
        obtain ⟨c0, c1⟩ := blk2 HC2.out
        cases h1 : onB A0 B0 C0
        case true =>
          have H1 := Lib.hid h1; clear h1
          go_wp2_with fail
          go_ret
          exact ⟨ret_bool (by unfold rsimpleB; rw [allB_false (k := i) hil (by unfold rsideF; rw [HL.out, ← HA0.out, ← HB0.out, ← HC0.out, H1.out]; simp)]), HX2.out⟩
        have H1 := Lib.hid h1; clear h1
        go_wp2_with fail
        refine (between_any B0 C0 A0 _).mono ?_
        rintro e w3 ⟨rfl, he3⟩
        have HA3 := Lib.hid (HA2.out.ext he3); have HB3 := Lib.hid (HB2.out.ext he3); have HX3 := Lib.hid (HX2.out.trans he3)
        clear he3 a0 a1 b0 b1 c0 c1 HA2 HB2 HC2 HX2
        obtain ⟨a0, a1⟩ := blk2 HA3.out
        obtain ⟨b0, b1⟩ := blk2 HB3.out
        cases h2 : onB B0 C0 A0
        case true =>
          have H2 := Lib.hid h2; clear h2
          go_wp2_with fail
          go_ret
          exact ⟨ret_bool (by unfold rsimpleB; rw [allB_false (k := i) hil (by unfold rsideF; rw [HL.out, ← HA0.out, ← HB0.out, ← HC0.out, H2.out]; simp)]), HX3.out⟩
        have H2 := Lib.hid h2; clear h2
        go_wp2_with fail
        go_loopw [8] (fun v wq => ∃ j : Nat, j ≤ n - (i + 2) ∧ v = .int .i64 ((i : Int) + 2 + j) ∧ allB (meetF l n i) j = true ∧ Ext w3 wq) (fun v _ => n + 2 - (intOf v).toNat)
        case atStart => exact ⟨0, Nat.zero_le _, by simp, rfl, Ext.refl _⟩
        case round =>
          obtain ⟨wq, rfl⟩ : ∃ wq : World, wq = wr := ⟨_, rfl⟩
          obtain ⟨j, hj, rfl, hs, hy⟩ := hrel
          have HJ := Lib.hid hs; have HY := Lib.hid hy; clear hs hy
          obtain ⟨g0, g1⟩ := blk2 (HA3.out.ext HY.out)
          obtain ⟨g2, g3⟩ := blk2 (HB3.out.ext HY.out)
          clear a0 a1 b0 b1
          by_cases hjk : i + 2 + j < n
          · have hjk' : (i : Int) + 2 + j < n := by omega
            obtain ⟨q0, q1, q2⟩ : 0 ≤ ((i : Int) + 2 + j + 1) % n ∧ ((i : Int) + 2 + j + 1) % n < n ∧ (((i : Int) + 2 + j + 1) % n).toNat = (i + 2 + j + 1) % n := by
              have h := mod_idx (i + 2 + j) n 1 1 rfl (by omega)
              simpa using h
            obtain ⟨f0, f1⟩ := (HA.out.ext (HX3.out.trans HY.out)).at1 (k := i + 2 + j) (by rw [HL.out]; exact hjk)
            obtain ⟨f2, f3⟩ := (HA.out.ext (HX3.out.trans HY.out)).at1 (k := (i + 2 + j + 1) % n) (by rw [HL.out]; exact Nat.mod_lt _ (by omega))
            have hn0 : 0 ≤ (i : Int) + 2 + j := by omega
            have hn1 : ((i : Int) + 2 + j).toNat = i + 2 + j := by omega
            go_upto_region 12 with fail
            have d0 := fun z : After wq => After.cell g0 z
            have d1 := fun z : After wq => After.cell g1 z
            have d2 := fun z : After wq => After.cell g2 z
            have d3 := fun z : After wq => After.cell g3 z
            have d4 := fun z : After wq => After.cell f0 z
            have d5 := fun z : After wq => After.cell f1 z
            have d6 := fun z : After wq => After.cell f2 z
            have d7 := fun z : After wq => After.cell f3 z
            by_cases hq : (i + 2 + j + 1) % n = i
            · have hqb : (((i : Int) + 2 + j + 1) % n != i) = false := by
                have : ((i : Int) + 2 + j + 1) % n = i := by omega
                simp [this]
              have HQ := Lib.hid hq; clear hq
              clear q2
              refine region_ext (by kernel_rfl) (by kernel_rfl) ?_
              repeat (go_big_quiet_step (fail))
              refine wpQuiet_nil ?_
              rintro w4 ⟨⟨_, he⟩, rfl⟩
              clear d0 d1 d2 d3 d4 d5 d6 d7 hqb
              go_wp2_with fail
              go_roundw
              case rel => exact ⟨j + 1, by omega, by go_num, allB_succ HJ.out (by unfold meetF; rw [HQ.out]; simp), HY.out.trans he⟩
              case measure => simp [intOf]; omega
            · have hqb : (((i : Int) + 2 + j + 1) % n != i) = true := by
                have : ¬ ((i : Int) + 2 + j + 1) % n = i := by omega
                simp [this]
              have HQ := Lib.hid hq; clear hq
              refine region_ext (by kernel_rfl) (by kernel_rfl) ?_
              repeat (go_big_quiet_step (
                (go_at_call 132; exact after_call (rmeet_any A0 B0 (gS l (i + 2 + j)) (gS l ((i + 2 + j + 1) % n)) _))))
              refine wpQuiet_nil ?_
              rintro w4 ⟨⟨_, he⟩, rfl⟩
              clear d0 d1 d2 d3 d4 d5 d6 d7 hqb
              cases hp : meetB A0 B0 (gS l (i + 2 + j)) (gS l ((i + 2 + j + 1) % n))
              · have HM := Lib.hid hp; clear hp
                go_wp2_with fail
                go_roundw
                case rel => exact ⟨j + 1, by omega, by go_num, allB_succ HJ.out (by unfold meetF; rw [← HA0.out, ← HB0.out, HM.out]; simp), HY.out.trans he⟩
                case measure => simp [intOf]; omega
              · have HM := Lib.hid hp; clear hp
                go_wp2_with fail
                go_ret
                exact ⟨ret_bool (by
                  unfold rsimpleB
                  rw [allB_false (k := i) (n := l.length) (f := rsideF l l.length) hil (by
                    unfold rsideF
                    rw [HL.out, allB_false (k := j) (by omega) (by unfold meetF; rw [← HA0.out, ← HB0.out, HM.out]; simp; exact HQ.out)]; simp)]), (HX3.out.trans HY.out).trans he⟩
          · have hjk' : ¬ (i : Int) + 2 + j < n := by omega
            go_wp2_with fail
            go_roundw
            case rel => exact ⟨i + 1, by omega, by go_num, allB_succ HS.out (rside_true (by rw [← HA0.out, ← HB0.out]; exact HAB.out) (by rw [← HA0.out, ← HB0.out, ← HC0.out]; exact H1.out) (by rw [← HA0.out, ← HB0.out, ← HC0.out]; exact H2.out) (by
              have h : n - (i + 2) = j := by omega
              rw [h]; exact HJ.out)), HX3.out.trans HY.out⟩
            case measure => simp [intOf]; omega
    · go_wp2_with fail
      go_ret
      exact ⟨ret_bool (by
        obtain rfl : i = n := by omega
        unfold rsimpleB
        rw [HL.out, HS.out]), HX.out⟩
end Go.Proofs.YtkigmpholnfkbaaGreat
namespace Go.Proofs.YtkigmpholnfkbaaGreat
open Go.RowKit
theorem allB_of_any {l : List Spot} (h : ∀ k, k < l.length → outB (gS l k) = false) : AllB l := fun k hk => by
  have := h k hk
  unfold outB at this
  simp at this
  unfold inB; omega
theorem rany_out {l : List Spot} (h : ∀ k, k < l.length → outB (gS l k) = false) : l.any outB = false := by
  rw [List.any_eq_false]
  intro s hs
  obtain ⟨k, hk, rfl⟩ := List.getElem_of_mem hs
  rw [← gS_eq hk, h k hk]; simp
set_option maxHeartbeats 800000 in
theorem rpcheck_any (A : Option Addr) (n c : Nat) (l : List Spot) (w : World) (ha : SpotsAt w A l) (hl : l.length = n) :
    Calls Tryz.prog 95 #[.slice A n c] w fun e w' => e = .returned (.int .i64 (pcheck l)) ∧ Ext w w' := by
  have HL := Lib.hid hl; clear hl
  have HA := Lib.hid ha; clear ha
  by_cases h40 : 40 < n
  · go_enter Tryz.func95, Tryz.ntmps95
    go_wp2_with fail
    go_ret
    exact ⟨ret_int (by unfold pcheck; rw [HL.out, if_pos h40]), Ext.refl _⟩
  by_cases h3 : n < 3
  · go_enter Tryz.func95, Tryz.ntmps95
    go_wp2_with fail
    go_ret
    exact ⟨ret_int (by unfold pcheck; rw [HL.out, if_neg h40, if_pos h3]), Ext.refl _⟩
  go_enter Tryz.func95, Tryz.ntmps95
  go_wp2_with fail
  go_loopw [3] (fun i wr => ∃ k : Nat, k ≤ n ∧ i = .int .i64 k ∧ (∀ j, j < k → outB (gS l j) = false) ∧ Ext w wr) (fun i _ => n - (intOf i).toNat)
  case atStart => exact ⟨0, Nat.zero_le _, rfl, fun j hj => absurd hj (Nat.not_lt_zero _), Ext.refl _⟩
  case round =>
    obtain ⟨k, hk, rfl, hall, hx⟩ := hrel
    have HALL := Lib.hid hall; have HX := Lib.hid hx; clear hall hx
    by_cases hlt : k < n
    · have hkl : k < l.length := by rw [HL.out]; exact hlt
      obtain ⟨b, off, hA, hc0, hc1⟩ := (HA.out.ext HX.out).g hkl
      subst hA
      go_wp2_with fail
      refine (rwithin_any (gS l k) _).mono ?_
      rintro e w1 ⟨rfl, he⟩
      have HX1 := Lib.hid (HX.out.trans he)
      clear he hc0 hc1
      cases ho : outB (gS l k)
      · have HO := Lib.hid ho; clear ho
        go_wp2_with fail
        go_roundw
        case rel => exact ⟨k + 1, by omega, by go_num, fun j hj => by
          rcases Nat.lt_succ_iff_lt_or_eq.1 hj with h | h
          · exact HALL.out j h
          · subst h; exact HO.out, HX1.out⟩
        case measure => simp [intOf]; omega
      · have HO := Lib.hid ho; clear ho
        go_wp2_with fail
        go_ret
        refine ⟨ret_int ?_, HX1.out⟩
        have hany : l.any outB = true := by
          rw [List.any_eq_true]
          exact ⟨gS l k, by rw [gS_eq hkl]; exact List.getElem_mem hkl, HO.out⟩
        unfold pcheck; rw [HL.out, if_neg h40, if_neg h3, if_pos hany]
    · obtain rfl : k = n := by omega
      have HB : Hid (AllB l) := allB_of_any (fun j hj => HALL.out j (by rw [HL.out] at hj; exact hj))
      have HN : Hid (l.any outB = false) := rany_out (fun j hj => HALL.out j (by rw [HL.out] at hj; exact hj))
      go_wp2_with fail
      refine (rsimple_any A k c l _ (HA.out.ext HX.out) HL.out (by omega)).mono ?_
      rintro e w1 ⟨rfl, he⟩
      have HX1 := Lib.hid (HX.out.trans he); clear he
      rw [rsimple_eq HB.out (by rw [HL.out]; omega)]
      cases hs : simpleB l
      · have HS := Lib.hid hs; clear hs
        go_wp2_with fail
        go_ret
        exact ⟨ret_int (by unfold pcheck; rw [HL.out, if_neg h40, if_neg h3, HN.out, HS.out]; rfl), HX1.out⟩
      · have HS := Lib.hid hs; clear hs
        go_wp2_with fail
        go_ret
        exact ⟨ret_int (by unfold pcheck; rw [HL.out, if_neg h40, if_neg h3, HN.out, HS.out]; rfl), HX1.out⟩
/- names -/
theorem rdigit_any (c : Int) (w : World) :
    Calls Tryz.prog 59 #[.int .u8 c] w fun e w' => e = .returned (.bool (digitB c)) ∧ w = w' := by
  by_cases h1 : 48 ≤ c
  · by_cases h2 : c ≤ 57
    · go_enter Tryz.func59, Tryz.ntmps59
      go_wp2
      go_ret
      exact ⟨ret_bool (by simp [digitB, h1, h2]), rfl⟩
    · go_enter Tryz.func59, Tryz.ntmps59
      go_wp2
      go_ret
      exact ⟨ret_bool (by simp [digitB, h2]), rfl⟩
  · go_enter Tryz.func59, Tryz.ntmps59
    go_wp2
    go_ret
    exact ⟨ret_bool (by symm; unfold digitB; simp; omega), rfl⟩
def chR (s : ByteArray) (i : Nat) : Bool := smallB (bt s i) || (bt s i == 95 || digitB (bt s i))
theorem nameR {s : ByteArray} (h0 : (s.size == 0) = false) (h1 : decide (24 < s.size) = false) (h2 : (s.toList == [109, 105, 110]) = false) (h3 : (s.toList == [109, 97, 120]) = false) (hs : smallB (bt s 0) = true) (h : allB (chR s) s.size = true) : nameB s = true := by
  unfold nameB
  rw [h0, h1, h2, h3]
  simp only [Bool.not_false, Bool.true_and]
  rw [allB_iff] at h ⊢
  intro i hi
  unfold chF
  by_cases hi0 : i = 0
  · subst hi0; rw [hs]; rfl
  · have := h i hi
    unfold chR at this
    rw [show (i == 0) = false from by simpa using hi0]
    simpa using this
theorem nameR_small {s : ByteArray} (h0 : 0 < s.size) (hs : smallB (bt s 0) = false) : nameB s = false := by
  have : chF s 0 = false := by unfold chF; rw [hs]; rfl
  unfold nameB; rw [allB_false h0 this]; simp
theorem nameR_ch {s : ByteArray} {k : Nat} (hk : k < s.size) (h : chR s k = false) : nameB s = false := by
  have : chF s k = false := by
    unfold chR at h; unfold chF
    simp at h ⊢
    exact ⟨h.1, fun _ => h.2⟩
  unfold nameB; rw [allB_false hk this]; simp
theorem str_len (s : ByteArray) : s.toList.length = s.size := by rw [ByteArray.toList_eq]; rfl
set_option maxRecDepth 100000 in
set_option maxHeartbeats 1600000 in
theorem rname_test (s : ByteArray) (w : World) (hz : (s.toList == []) = false) (h1 : decide (24 < (s.size : Int)) = false) (h2 : (s.toList == [109, 105, 110]) = false) (h3 : (s.toList == [109, 97, 120]) = false) :
    Calls Tryz.prog 33 #[.string s] w fun e w' => e = .returned (.bool (nameB s)) ∧ w = w' := by
  have h24 : s.size ≤ 24 := by simp at h1; omega
  have hne : ¬ s.toList = [] := by simpa using hz
  have hp : 0 < s.size := by
    rcases Nat.eq_zero_or_pos s.size with h | h
    · exact absurd (List.eq_nil_of_length_eq_zero (by rw [str_len]; exact h)) hne
    · exact h
  have hem : s.toList.isEmpty = false := by
    cases hh : s.toList with
    | nil => exact absurd hh hne
    | cons a b => rfl
  have H0 : Hid ((s.size == 0) = false) := by show (s.size == 0) = false; rw [beq_eq_false_iff_ne]; omega
  have H1 : Hid (decide (24 < s.size) = false) := by show _ = _; simp; omega
  have H2 := Lib.hid h2; have H3 := Lib.hid h3
  by_cases ha : (s[0].toNat : Int) < 97
  · have HF : Hid (nameB s = false) := nameR_small hp (by unfold smallB; rw [← bt_eq hp]; simp; omega)
    go_enter Tryz.func33, Tryz.ntmps33
    go_wp2_with fail
    go_ret
    exact ⟨ret_bool HF.out.symm, rfl⟩
  by_cases hb : 122 < (s[0].toNat : Int)
  · have HF : Hid (nameB s = false) := nameR_small hp (by unfold smallB; rw [← bt_eq hp]; simp; omega)
    go_enter Tryz.func33, Tryz.ntmps33
    go_wp2_with fail
    go_ret
    exact ⟨ret_bool HF.out.symm, rfl⟩
  have HSM : Hid (smallB (bt s 0) = true) := by show _ = _; unfold smallB; rw [← bt_eq hp]; simp; omega
  go_enter Tryz.func33, Tryz.ntmps33
  go_wp2_with fail
  clear ha hb hz hne hem h2 h3
  go_loop [3] (fun i => ∃ k : Nat, k ≤ s.size ∧ i = .int .i64 k ∧ allB (chR s) k = true) (fun i => s.size - (intOf i).toNat)
  case atStart => exact ⟨0, Nat.zero_le _, rfl, rfl⟩
  case round =>
    obtain ⟨k, hk, rfl, ht⟩ := hrel
    have HT := Lib.hid ht; clear ht
    by_cases hlt : k < s.size
    · go_wp2_with fail
      refine (rdigit_any _ _).mono ?_
      rintro e w1 ⟨rfl, rfl⟩
      cases hd : digitB (s[k].toNat : Int)
      rotate_left
      · have HD := Lib.hid hd; clear hd
        go_wp2_with fail
        go_round
        case rel => exact ⟨k + 1, by omega, by go_num, allB_succ HT.out (by unfold chR; rw [← bt_eq hlt, HD.out]; simp)⟩
        case measure => simp [intOf]; omega
      have HD := Lib.hid hd; clear hd
      by_cases h95 : (s[k].toNat : Int) = 95
      · have h95b : ((s[k].toNat : Int) != 95) = false := by rw [h95]; decide
        have H95 := Lib.hid h95; clear h95
        go_wp2_with fail
        go_round
        case rel => exact ⟨k + 1, by omega, by go_num, allB_succ HT.out (by unfold chR; rw [← bt_eq hlt, H95.out]; simp)⟩
        case measure => simp [intOf]; omega
      have h95b : ((s[k].toNat : Int) != 95) = true := by simp; omega
      by_cases hsa : (s[k].toNat : Int) < 97
      · have HF : Hid (nameB s = false) := nameR_ch hlt (by unfold chR; rw [← bt_eq hlt, HD.out]; unfold smallB; simp; omega)
        go_wp2_with fail
        go_ret
        exact ⟨ret_bool HF.out.symm, rfl⟩
      by_cases hsb : 122 < (s[k].toNat : Int)
      · have HF : Hid (nameB s = false) := nameR_ch hlt (by unfold chR; rw [← bt_eq hlt, HD.out]; unfold smallB; simp; omega)
        go_wp2_with fail
        go_ret
        exact ⟨ret_bool HF.out.symm, rfl⟩
      have HSK : Hid (chR s k = true) := by show _ = _; unfold chR; rw [← bt_eq hlt]; unfold smallB; simp; omega
      go_wp2_with fail
      go_round
      case rel => exact ⟨k + 1, by omega, by go_num, allB_succ HT.out HSK.out⟩
      case measure => simp [intOf]; omega
    · obtain rfl : k = s.size := by omega
      go_wp2_with fail
      go_ret
      exact ⟨ret_bool (nameR H0.out H1.out H2.out H3.out HSM.out HT.out).symm, rfl⟩
theorem rname_any (s : ByteArray) (w : World) : Calls Tryz.prog 33 #[.string s] w fun e w' => e = .returned (.bool (nameB s)) ∧ w = w' := by
  cases h0 : (s.toList == [])
  case true =>
    have hnil : s.toList = [] := by simpa using h0
    have H : Hid (nameB s = false) := by
      have hl := str_len s
      rw [hnil] at hl
      have : (s.size == 0) = true := by rw [beq_iff_eq]; exact hl.symm
      show nameB s = false
      unfold nameB; rw [this]; rfl
    have hem : s.toList.isEmpty = true := by rw [hnil]; rfl
    go_enter Tryz.func33, Tryz.ntmps33
    go_wp2_with fail
    go_ret
    exact ⟨ret_bool H.out.symm, rfl⟩
  have hne : ¬ s.toList = [] := by simpa using h0
  have hem : s.toList.isEmpty = false := by
    cases hh : s.toList with
    | nil => exact absurd hh hne
    | cons a b => rfl
  cases h1 : decide (24 < (s.size : Int))
  case true =>
    have H : Hid (nameB s = false) := by
      have : decide (24 < s.size) = true := by simp at h1 ⊢; omega
      show nameB s = false
      unfold nameB; rw [this]; simp
    go_enter Tryz.func33, Tryz.ntmps33
    go_wp2_with fail
    go_ret
    exact ⟨ret_bool H.out.symm, rfl⟩
  cases h2 : (s.toList == [109, 105, 110])
  case true =>
    have H : Hid (nameB s = false) := by
      show nameB s = false
      unfold nameB; rw [h2]; simp
    go_enter Tryz.func33, Tryz.ntmps33
    go_wp2_with fail
    go_ret
    exact ⟨ret_bool H.out.symm, rfl⟩
  cases h3 : (s.toList == [109, 97, 120])
  case true =>
    have H : Hid (nameB s = false) := by
      show nameB s = false
      unfold nameB; rw [h3]; simp
    go_enter Tryz.func33, Tryz.ntmps33
    go_wp2_with fail
    go_ret
    exact ⟨ret_bool H.out.symm, rfl⟩
  exact rname_test s w h0 h1 h2 h3
end Go.Proofs.YtkigmpholnfkbaaGreat
