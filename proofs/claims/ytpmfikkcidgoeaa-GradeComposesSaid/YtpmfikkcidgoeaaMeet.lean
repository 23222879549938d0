/- meet -/
import Derived.Test.YtpmfikkcidgoeaaL2
namespace Go.Proofs.Ytpmfikkcidgoeaa
open Go.RowKit
def meetB (a b c d : Spot) : Bool := onB a b c || (onB a b d || (onB c d a || (onB c d b || (partB a b c d && partB c d a b))))
set_option maxHeartbeats 1000000 in
theorem meet_any (a b c d : Spot) (w : World) :
    Calls Try.prog 67 #[SV a, SV b, SV c, SV d] w fun e w' => e = .returned (.bool (meetB a b c d)) ∧ Ext w w' := by
  obtain ⟨ax, ay⟩ := a; obtain ⟨bx, b_y⟩ := b; obtain ⟨cx, cy⟩ := c; obtain ⟨dx, dy⟩ := d
  go_enter Try.func67, Try.ntmps67
  go_wp2_with fail
  refine (on_any (ax, ay) (bx, b_y) (cx, cy) _).mono ?_
  rintro e w1 ⟨rfl, he1⟩
  have hx1 : Ext w w1 := (((((Ext.refl w).alloc _).alloc _).alloc _).alloc _).trans he1
  have hc1 : ∀ k j, k < w.heap.size + 4 → w1.cell? ⟨k, j, none⟩ = _ := fun k j hk => ext_cells he1 (by simp; omega)
  have hz1 : w.heap.size + 4 ≤ w1.heap.size := by have := he1.size; simp at this; omega
  cases h1 : onB (ax, ay) (bx, b_y) (cx, cy)
  rotate_left
  · have H := Lib.hid h1; clear h1
    go_wp2_with fail
    go_ret
    exact ⟨ret_bool (by simp [meetB, H.out]), hx1⟩
  have H1 := Lib.hid h1; clear h1
  go_wp2_with fail
  refine (on_any (ax, ay) (bx, b_y) (dx, dy) _).mono ?_
  rintro e w2 ⟨rfl, he2⟩
  have hx2 : Ext w w2 := hx1.trans he2
  have hc2 : ∀ k j, k < w.heap.size + 4 → w2.cell? ⟨k, j, none⟩ = _ := fun k j hk => (ext_cells he2 (Nat.lt_of_lt_of_le hk hz1)).trans (hc1 k j hk)
  have hz2 : w.heap.size + 4 ≤ w2.heap.size := by have := he2.size; omega
  cases h2 : onB (ax, ay) (bx, b_y) (dx, dy)
  rotate_left
  · have H := Lib.hid h2; clear h2
    go_wp2_with fail
    go_ret
    exact ⟨ret_bool (by simp [meetB, H.out]), hx2⟩
  have H2 := Lib.hid h2; clear h2
  go_wp2_with fail
  refine (on_any (cx, cy) (dx, dy) (ax, ay) _).mono ?_
  rintro e w3 ⟨rfl, he3⟩
  have hx3 : Ext w w3 := hx2.trans he3
  have hc3 : ∀ k j, k < w.heap.size + 4 → w3.cell? ⟨k, j, none⟩ = _ := fun k j hk => (ext_cells he3 (Nat.lt_of_lt_of_le hk hz2)).trans (hc2 k j hk)
  have hz3 : w.heap.size + 4 ≤ w3.heap.size := by have := he3.size; omega
  cases h3 : onB (cx, cy) (dx, dy) (ax, ay)
  rotate_left
  · have H := Lib.hid h3; clear h3
    go_wp2_with fail
    go_ret
    exact ⟨ret_bool (by simp [meetB, H.out]), hx3⟩
  have H3 := Lib.hid h3; clear h3
  go_wp2_with fail
  refine (on_any (cx, cy) (dx, dy) (bx, b_y) _).mono ?_
  rintro e w4 ⟨rfl, he4⟩
  have hx4 : Ext w w4 := hx3.trans he4
  have hc4 : ∀ k j, k < w.heap.size + 4 → w4.cell? ⟨k, j, none⟩ = _ := fun k j hk => (ext_cells he4 (Nat.lt_of_lt_of_le hk hz3)).trans (hc3 k j hk)
  have hz4 : w.heap.size + 4 ≤ w4.heap.size := by have := he4.size; omega
  cases h4 : onB (cx, cy) (dx, dy) (bx, b_y)
  rotate_left
  · have H := Lib.hid h4; clear h4
    go_wp2_with fail
    go_ret
    exact ⟨ret_bool (by simp [meetB, H.out]), hx4⟩
  have H4 := Lib.hid h4; clear h4
  go_wp2_with fail
  refine (parted_any (ax, ay) (bx, b_y) (cx, cy) (dx, dy) _).mono ?_
  rintro e w5 ⟨rfl, he5⟩
  have hx5 : Ext w w5 := hx4.trans he5
  have hc5 : ∀ k j, k < w.heap.size + 4 → w5.cell? ⟨k, j, none⟩ = _ := fun k j hk => (ext_cells he5 (Nat.lt_of_lt_of_le hk hz4)).trans (hc4 k j hk)
  cases h5 : partB (ax, ay) (bx, b_y) (cx, cy) (dx, dy)
  · have H := Lib.hid h5; clear h5
    go_wp2_with fail
    go_ret
    exact ⟨ret_bool (by simp [meetB, H.out, H1.out, H2.out, H3.out, H4.out]), hx5⟩
  have H5 := Lib.hid h5; clear h5
  go_wp2_with fail
  refine (parted_any (cx, cy) (dx, dy) (ax, ay) (bx, b_y) _).mono ?_
  rintro e w6 ⟨rfl, he6⟩
  go_wp2_with fail
  go_ret
  exact ⟨ret_bool (by simp [meetB, H1.out, H2.out, H3.out, H4.out, H5.out]), hx5.trans he6⟩
end Go.Proofs.Ytpmfikkcidgoeaa
