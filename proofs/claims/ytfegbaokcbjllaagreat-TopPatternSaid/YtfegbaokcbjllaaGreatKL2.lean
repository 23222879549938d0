/- outside, on, folded, meet -/
import Derived.Deep.RegionHeld3
import Derived.Test.YtfegbaokcbjllaaGreatKBase
/- Contracts of the small functions: cross, on, parted, meet, folded, outside, within. No conditions. -/
namespace Go.Proofs.YtfegbaokcbjllaaGreat
open Go.RowKit
/- cross -/
def cross (a b c : Spot) : Int := wrap64 (wrap64 (wrap64 (b.1 - a.1) * wrap64 (c.2 - a.2)) - wrap64 (wrap64 (b.2 - a.2) * wrap64 (c.1 - a.1)))
theorem cross_any (a b c : Spot) (w : World) :
  Calls Tryz.prog 65 #[SV a, SV b, SV c] w fun e w' => e = .returned (.int .i64 (cross a b c)) ∧ Ext w w' := by
 obtain ⟨ax, ay⟩ := a; obtain ⟨bx, b_y⟩ := b; obtain ⟨cx, cy⟩ := c
 go_enter Tryz.func65, Tryz.ntmps65
 go_wp2
 go_ret
 exact ⟨rfl, (((Ext.refl _).alloc _).alloc _).alloc _⟩
/- within -/
theorem within_any (n b : Int) (w : World) (hb : 0 ≤ b) (hb' : b ≤ 9223372036854775807) :
  Calls Tryz.prog 38 #[.int .i64 n, .int .i64 b] w fun e w' => e = .returned (.bool (decide (-b ≤ n ∧ n ≤ b))) ∧ w = w' := by
 by_cases h1 : -b ≤ n
 ·by_cases h2 : n ≤ b
  ·go_enter Tryz.func38, Tryz.ntmps38
   go_wp2
   go_ret
   exact ⟨ret_bool (by simp [h1, h2]), rfl⟩
  ·go_enter Tryz.func38, Tryz.ntmps38
   go_wp2
   go_ret
   exact ⟨ret_bool (by simp [h2]), rfl⟩
 ·go_enter Tryz.func38, Tryz.ntmps38
  go_wp2
  go_ret
  exact ⟨ret_bool (by symm; simp; omega), rfl⟩
def outB (s : Spot) : Bool := decide (s.1 < -1048576 ∨ 1048576 < s.1 ∨ s.2 < -1048576 ∨ 1048576 < s.2)
theorem lout_any (s : Spot) (w : World) :
  Calls Tryz.prog 72 #[SV s] w fun e w' => e = .returned (.bool (outB s)) ∧ Ext w w' := by
 obtain ⟨x, y⟩ := s
 go_enter Tryz.func72, Tryz.ntmps72
 go_wp2
 all_goals
  go_ret
  exact ⟨ret_bool (by rw [Bool.eq_iff_iff]; simp [outB] <;> omega), (Ext.refl _).alloc _⟩
theorem pout_any (s : Spot) (w : World) :
  Calls Tryz.prog 63 #[SV s] w fun e w' => e = .returned (.bool (outB s)) ∧ Ext w w' := by
 obtain ⟨x, y⟩ := s
 go_enter Tryz.func63, Tryz.ntmps63
 go_wp2
 all_goals
  go_ret
  exact ⟨ret_bool (by rw [Bool.eq_iff_iff]; simp [outB] <;> omega), (Ext.refl _).alloc _⟩
def onB (a b p : Spot) : Bool := cross a b p == 0 && (decide (min a.1 b.1 ≤ p.1) && (decide (p.1 ≤ max a.1 b.1) && (decide (min a.2 b.2 ≤ p.2) && decide (p.2 ≤ max a.2 b.2))))
set_option maxHeartbeats 400000 in
theorem on_any (a b p : Spot) (w : World) :
  Calls Tryz.prog 114 #[SV a, SV b, SV p] w fun e w' => e = .returned (.bool (onB a b p)) ∧ Ext w w' := by
 obtain ⟨ax, ay⟩ := a; obtain ⟨bx, b_y⟩ := b; obtain ⟨px, py⟩ := p
 go_enter Tryz.func114, Tryz.ntmps114
 go_wp2_with fail
 refine (cross_any (ax, ay) (bx, b_y) (px, py) _).mono ?_
 rintro e w1 ⟨rfl, he⟩
 have hc : ∀ k j, k < w.heap.size + 3 → w1.cell? ⟨k, j, none⟩ = _ := fun k j hk => ext_cells he (by simp; omega)
 by_cases h0 : cross (ax, ay) (bx, b_y) (px, py) = 0
 ·have hb0 : (cross (ax, ay) (bx, b_y) (px, py) == 0) = true := by simp [h0]
  clear h0
  go_wp2
  all_goals
   go_ret
   exact ⟨ret_bool (by rw [Bool.eq_iff_iff]; simp [onB, hb0] <;> omega), (((Ext.refl _).alloc _).alloc _).alloc _ |>.trans he⟩
 ·have hb0 : (cross (ax, ay) (bx, b_y) (px, py) == 0) = false := by simp [h0]
  clear h0
  go_wp2
  go_ret
  exact ⟨ret_bool (by simp [onB, hb0]), (((Ext.refl _).alloc _).alloc _).alloc _ |>.trans he⟩
def foldB (a b c : Spot) : Bool := cross a b c == 0 && decide (0 < wrap64 (wrap64 (wrap64 (a.1 - b.1) * wrap64 (c.1 - b.1)) + wrap64 (wrap64 (a.2 - b.2) * wrap64 (c.2 - b.2))))
set_option maxHeartbeats 400000 in
theorem folded_any (a b p : Spot) (w : World) :
  Calls Tryz.prog 92 #[SV a, SV b, SV p] w fun e w' => e = .returned (.bool (foldB a b p)) ∧ Ext w w' := by
 obtain ⟨ax, ay⟩ := a; obtain ⟨bx, b_y⟩ := b; obtain ⟨px, py⟩ := p
 go_enter Tryz.func92, Tryz.ntmps92
 go_wp2_with fail
 refine (cross_any (ax, ay) (bx, b_y) (px, py) _).mono ?_
 rintro e w1 ⟨rfl, he⟩
 have hc : ∀ k j, k < w.heap.size + 3 → w1.cell? ⟨k, j, none⟩ = _ := fun k j hk => ext_cells he (by simp; omega)
 by_cases h0 : cross (ax, ay) (bx, b_y) (px, py) = 0
 ·have hb0 : (cross (ax, ay) (bx, b_y) (px, py) == 0) = true := by simp [h0]
  clear h0
  go_wp2
  all_goals
   go_ret
   exact ⟨ret_bool (by simp [foldB, hb0]), (((Ext.refl _).alloc _).alloc _).alloc _ |>.trans he⟩
 ·have hb0 : (cross (ax, ay) (bx, b_y) (px, py) == 0) = false := by simp [h0]
  clear h0
  go_wp2
  go_ret
  exact ⟨ret_bool (by simp [foldB, hb0]), (((Ext.refl _).alloc _).alloc _).alloc _ |>.trans he⟩
def cmpI (a b : Int) : Int := if a < b then -1 else if b < a then 1 else 0
theorem compare_any (a b : Int) (w : World) :
  Calls Tryz.prog 88 #[.int .i64 a, .int .i64 b] w fun e w' => e = .returned (.int .i64 (cmpI a b)) ∧ w = w' := by
 by_cases h1 : a < b
 ·go_enter Tryz.func88, Tryz.ntmps88
  go_wp2
  go_ret
  exact ⟨ret_int (by simp [cmpI, h1]), rfl⟩
 ·by_cases h2 : b < a
  ·go_enter Tryz.func88, Tryz.ntmps88
   go_wp2
   go_ret
   exact ⟨ret_int (by unfold cmpI; rw [if_neg (by omega), if_pos h2]), rfl⟩
  ·go_enter Tryz.func88, Tryz.ntmps88
   go_wp2
   go_ret
   exact ⟨ret_int (by unfold cmpI; rw [if_neg (by omega), if_neg (by omega)]), rfl⟩
def partB (a b c d : Spot) : Bool := decide (wrap64 (cmpI (cross a b c) 0 * cmpI (cross a b d) 0) < 0)
set_option maxHeartbeats 800000 in
theorem parted_any (a b c d : Spot) (w : World) :
  Calls Tryz.prog 115 #[SV a, SV b, SV c, SV d] w fun e w' => e = .returned (.bool (partB a b c d)) ∧ Ext w w' := by
 obtain ⟨ax, ay⟩ := a; obtain ⟨bx, b_y⟩ := b; obtain ⟨cx, cy⟩ := c; obtain ⟨dx, dy⟩ := d
 go_enter Tryz.func115, Tryz.ntmps115
 go_wp2
 obtain ⟨w0, hw0⟩ : ∃ w0 : World, w0 = (((w.alloc (.cells #[.int .i64 ax, .int .i64 ay] 49)).alloc (.cells #[.int .i64 bx, .int .i64 b_y] 49)).alloc (.cells #[.int .i64 cx, .int .i64 cy] 49)).alloc (.cells #[.int .i64 dx, .int .i64 dy] 49) := ⟨_, rfl⟩
 have c0 : w0.cell? ⟨w.heap.size, 0, none⟩ = some (.int .i64 ax) := by rw [hw0]; simp [go_sem]
 have c1 : w0.cell? ⟨w.heap.size, 1, none⟩ = some (.int .i64 ay) := by rw [hw0]; simp [go_sem]
 have c2 : w0.cell? ⟨w.heap.size + 1, 0, none⟩ = some (.int .i64 bx) := by rw [hw0]; simp [go_sem]
 have c3 : w0.cell? ⟨w.heap.size + 1, 1, none⟩ = some (.int .i64 b_y) := by rw [hw0]; simp [go_sem]
 have c4 : w0.cell? ⟨w.heap.size + 1 + 1, 0, none⟩ = some (.int .i64 cx) := by rw [hw0]; simp [go_sem]
 have c5 : w0.cell? ⟨w.heap.size + 1 + 1, 1, none⟩ = some (.int .i64 cy) := by rw [hw0]; simp [go_sem]
 have c6 : w0.cell? ⟨w.heap.size + 1 + 1 + 1, 0, none⟩ = some (.int .i64 dx) := by rw [hw0]; simp [go_sem]
 have c7 : w0.cell? ⟨w.heap.size + 1 + 1 + 1, 1, none⟩ = some (.int .i64 dy) := by rw [hw0]; simp [go_sem]
 rw [← hw0]
 have he0 : Ext w w0 := by rw [hw0]; exact ((((Ext.refl _).alloc _).alloc _).alloc _).alloc _
 clear hw0
 have d0 := fun z : After w0 => After.cell c0 z
 have d1 := fun z : After w0 => After.cell c1 z
 have d2 := fun z : After w0 => After.cell c2 z
 have d3 := fun z : After w0 => After.cell c3 z
 have d4 := fun z : After w0 => After.cell c4 z
 have d5 := fun z : After w0 => After.cell c5 z
 have d6 := fun z : After w0 => After.cell c6 z
 have d7 := fun z : After w0 => After.cell c7 z
 refine region_ext (by kernel_rfl) (by kernel_rfl) ?_
 repeat (go_big_quiet_step (first
  |(go_at_call 65; exact after_call (cross_any (ax, ay) (bx, b_y) (_, _) _))
  |(go_at_call 88; exact after_same (compare_any _ _ _))))
 refine wpQuiet_nil ?_
 rintro _ ⟨⟨w1, he⟩, rfl⟩
 go_wp2
 go_ret
 exact ⟨rfl, he0.trans he⟩
end Go.Proofs.YtfegbaokcbjllaaGreat
