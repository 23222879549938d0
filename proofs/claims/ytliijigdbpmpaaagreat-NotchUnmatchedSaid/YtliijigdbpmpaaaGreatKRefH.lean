/- the reference: garmentref11.Cross, sign, Between, meet, Within -/
import Derived.IntWalk
import Derived.Test.YtliijigdbpmpaaaGreatKCyc
/- Plain: the reference's test for simple polygons is the program's. No program in sight. -/
namespace Go.Proofs.YtliijigdbpmpaaaGreat
open Go.RowKit
def rsideF (l : List Spot) (n i : Nat) : Bool := !decide (gS l i = gS l ((i + 1) % n)) && (!onB (gS l i) (gS l ((i + 1) % n)) (gS l ((i + 2) % n)) && (!onB (gS l ((i + 1) % n)) (gS l ((i + 2) % n)) (gS l i) && allB (meetF l n i) (n - (i + 2))))
def rsimpleB (l : List Spot) : Bool := allB (rsideF l l.length) l.length
theorem same_sign {u v : Int} (h : 0 ≤ u * v) : (0 ≤ u ∧ 0 ≤ v) ∨ (u ≤ 0 ∧ v ≤ 0) := by
  rcases Int.lt_or_le u 0 with h1 | h1 <;> rcases Int.lt_or_le v 0 with h2 | h2
  · exact .inr ⟨by omega, by omega⟩
  · by_cases h3 : v = 0
    · exact .inr ⟨by omega, by omega⟩
    · have := Int.mul_neg_of_neg_of_pos h1 (show 0 < v by omega)
      omega
  · by_cases h3 : u = 0
    · exact .inr ⟨by omega, by omega⟩
    · have := Int.mul_neg_of_pos_of_neg (show 0 < u by omega) h2
      omega
  · exact .inl ⟨h1, h2⟩
theorem box_mul {u v : Int} (h0 : min u 0 ≤ v) (h1 : v ≤ max u 0) : 0 ≤ u * v ∧ (u * v = 0 → v = 0) := by
  rcases Int.le_total 0 u with h | h
  · have hv : 0 ≤ v := by omega
    refine ⟨Int.mul_nonneg h hv, fun e => ?_⟩
    rcases Int.mul_eq_zero.1 e with e | e <;> omega
  · have hv : v ≤ 0 := by omega
    refine ⟨Int.mul_nonneg_of_nonpos_of_nonpos h hv, fun e => ?_⟩
    rcases Int.mul_eq_zero.1 e with e | e <;> omega
theorem box_dot (u1 u2 v1 v2 : Int) (hc : u2 * v1 = u1 * v2) (hu : ¬ (u1 = 0 ∧ u2 = 0)) (hv : ¬ (v1 = 0 ∧ v2 = 0)) :
    0 < u1 * v1 + u2 * v2 ↔ ((min u1 0 ≤ v1 ∧ v1 ≤ max u1 0 ∧ min u2 0 ≤ v2 ∧ v2 ≤ max u2 0) ∨ (min v1 0 ≤ u1 ∧ u1 ≤ max v1 0 ∧ min v2 0 ≤ u2 ∧ u2 ≤ max v2 0)) := by
  constructor
  · intro h
    have hpq : 0 ≤ (u1 * v1) * (u2 * v2) := by
      have e : (u1 * v1) * (u2 * v2) = (u1 * v2) * (u1 * v2) := by
        rw [show (u1 * v1) * (u2 * v2) = (u1 * v2) * (u2 * v1) from by ac_rfl, hc]
      rw [e]
      rcases Int.le_total 0 (u1 * v2) with h | h
      · exact Int.mul_nonneg h h
      · exact Int.mul_nonneg_of_nonpos_of_nonpos h h
    have hp : 0 ≤ u1 * v1 ∧ 0 ≤ u2 * v2 := by
      rcases same_sign hpq with h' | h' <;> omega
    have s1 := same_sign hp.1
    have s2 := same_sign hp.2
    have hn : u2.natAbs * v1.natAbs = u1.natAbs * v2.natAbs := by rw [← Int.natAbs_mul, ← Int.natAbs_mul, hc]
    by_cases h1 : v1.natAbs ≤ u1.natAbs
    · by_cases h2 : v2.natAbs ≤ u2.natAbs
      · left; omega
      · right
        have h3 : u1.natAbs ≤ v1.natAbs := by
          rcases Nat.lt_or_ge v1.natAbs u1.natAbs with h3 | h3
          · have := Nat.mul_lt_mul'' (show u2.natAbs < v2.natAbs by omega) h3
            rw [hn, Nat.mul_comm] at this
            omega
          · exact h3
        omega
    · right
      have h3 : u2.natAbs ≤ v2.natAbs := by
        rcases Nat.lt_or_ge v2.natAbs u2.natAbs with h3 | h3
        · have := Nat.mul_lt_mul'' h3 (show u1.natAbs < v1.natAbs by omega)
          rw [hn, Nat.mul_comm] at this
          omega
        · exact h3
      omega
  · rintro (⟨h1, h2, h3, h4⟩ | ⟨h1, h2, h3, h4⟩)
    · obtain ⟨a0, a1⟩ := box_mul h1 h2
      obtain ⟨b0, b1⟩ := box_mul h3 h4
      rcases Int.lt_or_le 0 (u1 * v1 + u2 * v2) with h | h
      · exact h
      · exact absurd ⟨a1 (by omega), b1 (by omega)⟩ hv
    · obtain ⟨a0, a1⟩ := box_mul h1 h2
      obtain ⟨b0, b1⟩ := box_mul h3 h4
      rw [Int.mul_comm u1, Int.mul_comm u2]
      rcases Int.lt_or_le 0 (v1 * u1 + v2 * u2) with h | h
      · exact h
      · exact absurd ⟨a1 (by omega), b1 (by omega)⟩ hu
theorem crossX_uv (a b c : Spot) : crossX a b c = (a.2 - b.2) * (c.1 - b.1) - (a.1 - b.1) * (c.2 - b.2) := by
  unfold crossX
  rw [show c.2 - a.2 = (c.2 - b.2) - (a.2 - b.2) from by omega, show c.1 - a.1 = (c.1 - b.1) - (a.1 - b.1) from by omega, show b.1 - a.1 = -(a.1 - b.1) from by omega, show b.2 - a.2 = -(a.2 - b.2) from by omega]
  generalize a.1 - b.1 = u1
  generalize a.2 - b.2 = u2
  generalize c.1 - b.1 = v1
  generalize c.2 - b.2 = v2
  rw [Int.mul_sub, Int.mul_sub, Int.neg_mul, Int.neg_mul, Int.neg_mul, Int.neg_mul, Int.mul_comm u1 u2]
  omega
theorem crossX_cyc (a b c : Spot) : crossX b c a = crossX a b c := by
  rw [crossX_uv a b c]
  unfold crossX
  rw [Int.mul_comm (c.2 - b.2), Int.mul_comm (c.1 - b.1)]
theorem fold_on {a b c : Spot} (ha : inB a) (hb : inB b) (hc : inB c) (hab : a ≠ b) (hbc : b ≠ c) : foldB a b c = (onB a b c || onB b c a) := by
  have e1 := on_iff ha hb hc
  have e2 := on_iff hb hc ha
  rw [fold_eq ha hb hc, Bool.eq_iff_iff, Bool.or_eq_true, e1, e2, Bool.and_eq_true]
  unfold onX
  rw [crossX_cyc a b c]
  simp only [beq_iff_eq, decide_eq_true_eq]
  have hX := crossX_uv a b c
  have hu : ¬ (a.1 - b.1 = 0 ∧ a.2 - b.2 = 0) := fun h => hab (Prod.ext (by omega) (by omega))
  have hv : ¬ (c.1 - b.1 = 0 ∧ c.2 - b.2 = 0) := fun h => hbc (Prod.ext (by omega) (by omega))
  by_cases h0 : crossX a b c = 0
  · rw [h0] at hX
    have h := box_dot (a.1 - b.1) (a.2 - b.2) (c.1 - b.1) (c.2 - b.2) (by omega) hu hv
    unfold dotX boxX
    rw [h]
    simp only [h0, true_and]
    constructor
    · rintro (h | h)
      · left; omega
      · right; omega
    · rintro (h | h)
      · left; omega
      · right; omega
  · simp [h0]
theorem on_self {a b : Spot} (ha : inB a) (hb : inB b) : onB a b a = true := by
  rw [on_iff ha hb ha]
  refine ⟨by unfold crossX; simp, ?_⟩
  unfold boxX; omega
theorem rsimple_eq {l : List Spot} (hB : AllB l) (h3 : 3 ≤ l.length) : rsimpleB l = simpleB l := by
  have hl : 0 < l.length := by omega
  have hin : ∀ k, inB (gS l (k % l.length)) := fun k => hB _ (Nat.mod_lt _ hl)
  have hmod : ∀ i, (i % l.length + 1) % l.length = (i + 1) % l.length := fun i => by rw [Nat.mod_add_mod]
  rw [Bool.eq_iff_iff]
  constructor
  · intro h
    unfold rsimpleB at h
    rw [allB_iff] at h
    have hne : ∀ i, i < l.length → gS l i ≠ gS l ((i + 1) % l.length) := fun i hi e => by
      have := h i hi
      unfold rsideF at this
      rw [Bool.and_eq_true] at this
      simp [← e] at this
    have hmt : ∀ i k, i + 2 ≤ k → k < l.length → (k + 1) % l.length ≠ i → meetB (gS l i) (gS l ((i + 1) % l.length)) (gS l k) (gS l ((k + 1) % l.length)) = false := fun i k hik hk hn => by
      have := h i (by omega)
      unfold rsideF at this
      simp only [Bool.and_eq_true] at this
      have h2 := (allB_iff _ _).1 this.2.2.2 (k - (i + 2)) (by omega)
      unfold meetF at h2
      rw [show i + 2 + (k - (i + 2)) = k from by omega, Bool.or_eq_true] at h2
      rcases h2 with h2 | h2
      · exact absurd (by simpa using h2) hn
      · simpa using h2
    unfold simpleB
    rw [Bool.and_eq_true, allB_iff, allB_iff]
    refine ⟨fun i hi => ?_, fun i hi => ?_⟩
    · unfold dupF
      simp only [Bool.not_eq_true', List.any_eq_false]
      intro s hs he
      obtain ⟨j, hj, rfl⟩ := List.mem_take_iff_getElem.1 hs
      have hj' : j < i := by omega
      have e : gS l i = gS l j := by rw [gS_eq (show j < l.length by omega)]; simpa using he
      by_cases h1 : i = j + 1
      · subst h1
        apply hne j (by omega)
        rw [Nat.mod_eq_of_lt hi, e]
      · by_cases h2 : (i + 1) % l.length = j
        · apply hne i hi
          rw [h2, e]
        · have hm := hmt j i (by omega) hi h2
          have := on_self (hB j (by omega)) (hin (j + 1))
          unfold meetB at hm
          rw [e, this] at hm
          simp at hm
    · have hi' := h i hi
      unfold rsideF at hi'
      simp only [Bool.and_eq_true, Bool.not_eq_true'] at hi'
      unfold sideF
      rw [Bool.and_eq_true]
      refine ⟨?_, hi'.2.2.2⟩
      have hn2 := hne ((i + 1) % l.length) (Nat.mod_lt _ hl)
      rw [hmod] at hn2
      rw [fold_on (hB i hi) (hin _) (hin _) (hne i hi) hn2, hi'.2.1, hi'.2.2.1]
      rfl
  · intro h
    have hX := (simple_iff hB h3).1 h
    unfold simpleB at h
    rw [Bool.and_eq_true, allB_iff, allB_iff] at h
    have hne : ∀ i, i < l.length → gS l i ≠ gS l ((i + 1) % l.length) := fun i hi e => by
      have := hX.a i (i + 1 : Nat) (by rw [cy_nat hi, cy_modn hl, e])
      rw [Int.emod_eq_of_lt (by omega) (by omega)] at this
      have h2 : (((i + 1 : Nat) : Int)) % l.length = ((i + 1) % l.length : Nat) := by simp
      rw [h2] at this
      have h3' : (i + 1) % l.length = i := by omega
      rcases Nat.lt_or_ge (i + 1) l.length with hh | hh
      · rw [Nat.mod_eq_of_lt hh] at h3'; omega
      · rw [show i + 1 = l.length from by omega, Nat.mod_self] at h3'; omega
    unfold rsimpleB
    rw [allB_iff]
    intro i hi
    have hi' := h.2 i hi
    unfold sideF at hi'
    rw [Bool.and_eq_true] at hi'
    have hn2 := hne ((i + 1) % l.length) (Nat.mod_lt _ hl)
    rw [hmod] at hn2
    have hf := hi'.1
    rw [fold_on (hB i hi) (hin _) (hin _) (hne i hi) hn2] at hf
    simp only [Bool.not_eq_true', Bool.or_eq_false_iff] at hf
    unfold rsideF
    rw [hf.1, hf.2, hi'.2, decide_eq_false (hne i hi)]
    rfl
end Go.Proofs.YtliijigdbpmpaaaGreat
namespace Go.Proofs.YtliijigdbpmpaaaGreat
open Go.RowKit
theorem rcross_any (a b c : Spot) (w : World) :
    Calls Tryz.prog 90 #[SV a, SV b, SV c] w fun e w' => e = .returned (.int .i64 (cross a b c)) ∧ Ext w w' := by
  obtain ⟨ax, ay⟩ := a; obtain ⟨bx, b_y⟩ := b; obtain ⟨cx, cy⟩ := c
  go_enter Tryz.func90, Tryz.ntmps90
  go_wp2
  go_ret
  exact ⟨rfl, (((Ext.refl _).alloc _).alloc _).alloc _⟩
theorem rsign_any (n : Int) (w : World) :
    Calls Tryz.prog 91 #[.int .i64 n] w fun e w' => e = .returned (.int .i64 (cmpI n 0)) ∧ w = w' := by
  by_cases h1 : 0 < n
  · go_enter Tryz.func91, Tryz.ntmps91
    go_wp2
    go_ret
    exact ⟨ret_int (by unfold cmpI; rw [if_neg (by omega), if_pos h1]), rfl⟩
  · by_cases h2 : n < 0
    · go_enter Tryz.func91, Tryz.ntmps91
      go_wp2
      go_ret
      exact ⟨ret_int (by unfold cmpI; rw [if_pos h2]), rfl⟩
    · go_enter Tryz.func91, Tryz.ntmps91
      go_wp2
      go_ret
      exact ⟨ret_int (by unfold cmpI; rw [if_neg (by omega), if_neg (by omega)]), rfl⟩
set_option maxHeartbeats 400000 in
theorem between_any (a b p : Spot) (w : World) :
    Calls Tryz.prog 83 #[SV a, SV b, SV p] w fun e w' => e = .returned (.bool (onB a b p)) ∧ Ext w w' := by
  obtain ⟨ax, ay⟩ := a; obtain ⟨bx, b_y⟩ := b; obtain ⟨px, py⟩ := p
  go_enter Tryz.func83, Tryz.ntmps83
  go_wp2_with fail
  refine (rcross_any (ax, ay) (bx, b_y) (px, py) _).mono ?_
  rintro e w1 ⟨rfl, he⟩
  have hc : ∀ k j, k < w.heap.size + 3 → w1.cell? ⟨k, j, none⟩ = _ := fun k j hk => ext_cells he (by simp; omega)
  by_cases h0 : cross (ax, ay) (bx, b_y) (px, py) = 0
  · have hb0 : (cross (ax, ay) (bx, b_y) (px, py) == 0) = true := by simp [h0]
    clear h0
    go_wp2
    all_goals
      go_ret
      exact ⟨ret_bool (by rw [Bool.eq_iff_iff]; simp [onB, hb0] <;> omega), (((Ext.refl _).alloc _).alloc _).alloc _ |>.trans he⟩
  · have hb0 : (cross (ax, ay) (bx, b_y) (px, py) == 0) = false := by simp [h0]
    clear h0
    go_wp2
    go_ret
    exact ⟨ret_bool (by simp [onB, hb0]), (((Ext.refl _).alloc _).alloc _).alloc _ |>.trans he⟩
theorem rwithin_any (s : Spot) (w : World) :
    Calls Tryz.prog 73 #[SV s, .int .i64 1048576] w fun e w' => e = .returned (.bool (!outB s)) ∧ Ext w w' := by
  obtain ⟨x, y⟩ := s
  go_enter Tryz.func73, Tryz.ntmps73
  go_wp2
  all_goals
    go_ret
    exact ⟨ret_bool (by rw [Bool.eq_iff_iff]; simp [outB] <;> omega), (Ext.refl _).alloc _⟩
set_option maxRecDepth 100000 in
set_option maxHeartbeats 2000000 in
theorem rmeet_any (a b c d : Spot) (w : World) :
    Calls Tryz.prog 84 #[SV a, SV b, SV c, SV d] w fun e w' => e = .returned (.bool (meetB a b c d)) ∧ Ext w w' := by
  obtain ⟨ax, ay⟩ := a; obtain ⟨bx, b_y⟩ := b; obtain ⟨cx, cy⟩ := c; obtain ⟨dx, dy⟩ := d
  go_enter Tryz.func84, Tryz.ntmps84
  go_wp2_with fail
  refine (between_any (ax, ay) (bx, b_y) (cx, cy) _).mono ?_
  rintro e w1 ⟨rfl, he1⟩
  have hx1 : Ext w w1 := (((((Ext.refl w).alloc _).alloc _).alloc _).alloc _).trans he1
  have hc1 : ∀ k j, k < w.heap.size + 4 → w1.cell? ⟨k, j, none⟩ = _ := fun k j hk => ext_cells he1 (by simp; omega)
  have hz1 : w.heap.size + 4 ≤ w1.heap.size := by have := he1.size; simp at this; omega
  cases h1 : onB (ax, ay) (bx, b_y) (cx, cy)
  rotate_left
  · have H := Lib.hid h1; clear h1
    go_wp2_with fail
    go_ret
    exact ⟨ret_bool (by simp [meetB, H.out]), hx1⟩
  have H1 := Lib.hid h1; clear h1
  go_wp2_with fail
  refine (between_any (ax, ay) (bx, b_y) (dx, dy) _).mono ?_
  rintro e w2 ⟨rfl, he2⟩
  have hx2 : Ext w w2 := hx1.trans he2
  have hc2 : ∀ k j, k < w.heap.size + 4 → w2.cell? ⟨k, j, none⟩ = _ := fun k j hk => (ext_cells he2 (Nat.lt_of_lt_of_le hk hz1)).trans (hc1 k j hk)
  have hz2 : w.heap.size + 4 ≤ w2.heap.size := by have := he2.size; omega
  cases h2 : onB (ax, ay) (bx, b_y) (dx, dy)
  rotate_left
  · have H := Lib.hid h2; clear h2
    go_wp2_with fail
    go_ret
    exact ⟨ret_bool (by simp [meetB, H.out]), hx2⟩
  have H2 := Lib.hid h2; clear h2
  go_wp2_with fail
  refine (between_any (cx, cy) (dx, dy) (ax, ay) _).mono ?_
  rintro e w3 ⟨rfl, he3⟩
  have hx3 : Ext w w3 := hx2.trans he3
  have hc3 : ∀ k j, k < w.heap.size + 4 → w3.cell? ⟨k, j, none⟩ = _ := fun k j hk => (ext_cells he3 (Nat.lt_of_lt_of_le hk hz2)).trans (hc2 k j hk)
  have hz3 : w.heap.size + 4 ≤ w3.heap.size := by have := he3.size; omega
  cases h3 : onB (cx, cy) (dx, dy) (ax, ay)
  rotate_left
  · have H := Lib.hid h3; clear h3
    go_wp2_with fail
    go_ret
    exact ⟨ret_bool (by simp [meetB, H.out]), hx3⟩
  have H3 := Lib.hid h3; clear h3
  go_wp2_with fail
  refine (between_any (cx, cy) (dx, dy) (bx, b_y) _).mono ?_
  rintro e w4 ⟨rfl, he4⟩
  have hx4 : Ext w w4 := hx3.trans he4
  have hc4 : ∀ k j, k < w.heap.size + 4 → w4.cell? ⟨k, j, none⟩ = _ := fun k j hk => (ext_cells he4 (Nat.lt_of_lt_of_le hk hz3)).trans (hc3 k j hk)
  have hz4 : w.heap.size + 4 ≤ w4.heap.size := by have := he4.size; omega
  cases h4 : onB (cx, cy) (dx, dy) (bx, b_y)
  rotate_left
  · have H := Lib.hid h4; clear h4
    go_wp2_with fail
    go_ret
    exact ⟨ret_bool (by simp [meetB, H.out]), hx4⟩
  have H4 := Lib.hid h4; clear h4
  go_wp2_with fail
  have c0 : w4.cell? ⟨w.heap.size, 0, none⟩ = some (.int .i64 ax) := by rw [hc4 _ _ (by omega)]; simp [go_sem]
  have c1 : w4.cell? ⟨w.heap.size, 1, none⟩ = some (.int .i64 ay) := by rw [hc4 _ _ (by omega)]; simp [go_sem]
  have c2 : w4.cell? ⟨w.heap.size + 1, 0, none⟩ = some (.int .i64 bx) := by rw [hc4 _ _ (by omega)]; simp [go_sem]
  have c3 : w4.cell? ⟨w.heap.size + 1, 1, none⟩ = some (.int .i64 b_y) := by rw [hc4 _ _ (by omega)]; simp [go_sem]
  have c4 : w4.cell? ⟨w.heap.size + 1 + 1, 0, none⟩ = some (.int .i64 cx) := by rw [hc4 _ _ (by omega)]; simp [go_sem]
  have c5 : w4.cell? ⟨w.heap.size + 1 + 1, 1, none⟩ = some (.int .i64 cy) := by rw [hc4 _ _ (by omega)]; simp [go_sem]
  have c6 : w4.cell? ⟨w.heap.size + 1 + 1 + 1, 0, none⟩ = some (.int .i64 dx) := by rw [hc4 _ _ (by omega)]; simp [go_sem]
  have c7 : w4.cell? ⟨w.heap.size + 1 + 1 + 1, 1, none⟩ = some (.int .i64 dy) := by rw [hc4 _ _ (by omega)]; simp [go_sem]
  have HX4 := Lib.hid hx4
  clear hc1 hc2 hc3 hc4 hx1 hx2 hx3 hx4 hz1 hz2 hz3 hz4 he1 he2 he3 he4
  have d0 := fun z : After w4 => After.cell c0 z
  have d1 := fun z : After w4 => After.cell c1 z
  have d2 := fun z : After w4 => After.cell c2 z
  have d3 := fun z : After w4 => After.cell c3 z
  have d4 := fun z : After w4 => After.cell c4 z
  have d5 := fun z : After w4 => After.cell c5 z
  have d6 := fun z : After w4 => After.cell c6 z
  have d7 := fun z : After w4 => After.cell c7 z
  obtain ⟨s1, hs1⟩ : ∃ s1, s1 = cmpI (cross (ax, ay) (bx, b_y) (cx, cy)) 0 := ⟨_, rfl⟩
  obtain ⟨s2, hs2⟩ : ∃ s2, s2 = cmpI (cross (ax, ay) (bx, b_y) (dx, dy)) 0 := ⟨_, rfl⟩
  have HS1 := Lib.hid hs1; have HS2 := Lib.hid hs2; clear hs1 hs2
  have HSG1 : Hid (∀ w : World, Calls Tryz.prog 91 #[.int .i64 (cross (ax, ay) (bx, b_y) (cx, cy))] w fun e w' => e = .returned (.int .i64 s1) ∧ w = w') := fun w => by rw [HS1.out]; exact rsign_any _ w
  have HSG2 : Hid (∀ w : World, Calls Tryz.prog 91 #[.int .i64 (cross (ax, ay) (bx, b_y) (dx, dy))] w fun e w' => e = .returned (.int .i64 s2) ∧ w = w') := fun w => by rw [HS2.out]; exact rsign_any _ w
  have HP1 : Hid (partB (ax, ay) (bx, b_y) (cx, cy) (dx, dy) = decide (wrap64 (s1 * s2) < 0)) := by show _ = _; unfold partB; rw [← HS1.out, ← HS2.out]
  cases hg : decide (wrap64 (s1 * s2) < 0)
  · have HG : Hid (decide (wrap64 (s1 * s2) < 0) = false) := hg
    refine region_ext (by kernel_rfl) (by kernel_rfl) ?_
    repeat (go_big_quiet_step (first
      | (go_at_call 90; exact after_call (rcross_any (ax, ay) (bx, b_y) (_, _) _))
      | (go_at_call 91; (with_reducible exact after_same (HSG1.out _)))
      | (go_at_call 91; (with_reducible exact after_same (HSG2.out _)))))
    refine wpQuiet_nil ?_
    rintro w5 ⟨⟨_, he⟩, rfl⟩
    clear hg
    go_wp2_with fail
    go_ret
    exact ⟨ret_bool (by simp [meetB, H1.out, H2.out, H3.out, H4.out, HP1.out, HG.out]), HX4.out.trans he⟩
  · have HG : Hid (decide (wrap64 (s1 * s2) < 0) = true) := hg
    refine region_ext (by kernel_rfl) (by kernel_rfl) ?_
    repeat (go_big_quiet_step (first
      | (go_at_call 90; exact after_call (rcross_any (_, _) (_, _) (_, _) _))
      | (go_at_call 91; (with_reducible exact after_same (HSG1.out _)))
      | (go_at_call 91; (with_reducible exact after_same (HSG2.out _)))
      | (go_at_call 91; exact after_same (rsign_any _ _))))
    refine wpQuiet_nil ?_
    rintro w5 ⟨⟨_, he⟩, rfl⟩
    clear hg
    go_wp2_with fail
    go_ret
    exact ⟨ret_bool (by simp [meetB, H1.out, H2.out, H3.out, H4.out, HP1.out, HG.out]; simp [partB]), HX4.out.trans he⟩
end Go.Proofs.YtliijigdbpmpaaaGreat
