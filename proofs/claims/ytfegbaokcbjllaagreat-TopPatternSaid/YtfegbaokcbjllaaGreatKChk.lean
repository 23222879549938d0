/- polyline.Check and polygon.Check: what they compute -/
import Derived.Test.YtfegbaokcbjllaaGreatKL2
/- meet -/
namespace Go.Proofs.YtfegbaokcbjllaaGreat
open Go.RowKit
def meetB (a b c d : Spot) : Bool := onB a b c || (onB a b d || (onB c d a || (onB c d b || (partB a b c d && partB c d a b))))
set_option maxHeartbeats 1000000 in
theorem meet_any (a b c d : Spot) (w : World) :
  Calls Tryz.prog 93 #[SV a, SV b, SV c, SV d] w fun e w' => e = .returned (.bool (meetB a b c d)) ∧ Ext w w' := by
 obtain ⟨ax, ay⟩ := a; obtain ⟨bx, b_y⟩ := b; obtain ⟨cx, cy⟩ := c; obtain ⟨dx, dy⟩ := d
 go_enter Tryz.func93, Tryz.ntmps93
 go_wp2_with fail
 refine (on_any (ax, ay) (bx, b_y) (cx, cy) _).mono ?_
 rintro e w1 ⟨rfl, he1⟩
 have hx1 : Ext w w1 := (((((Ext.refl w).alloc _).alloc _).alloc _).alloc _).trans he1
 have hc1 : ∀ k j, k < w.heap.size + 4 → w1.cell? ⟨k, j, none⟩ = _ := fun k j hk => ext_cells he1 (by simp; omega)
 have hz1 : w.heap.size + 4 ≤ w1.heap.size := by have := he1.size; simp at this; omega
 cases h1 : onB (ax, ay) (bx, b_y) (cx, cy)
 rotate_left
 ·have H := Lib.hid h1; clear h1
  go_wp2_with fail
  go_ret
  exact ⟨ret_bool (by simp [meetB, H.out]), hx1⟩
 have H1 := Lib.hid h1; clear h1
 go_wp2_with fail
 refine (on_any (ax, ay) (bx, b_y) (dx, dy) _).mono ?_
 rintro e w2 ⟨rfl, he2⟩
 have hx2 : Ext w w2 := hx1.trans he2
 have hc2 : ∀ k j, k < w.heap.size + 4 → w2.cell? ⟨k, j, none⟩ = _ := fun k j hk => (ext_cells he2 (Nat.lt_of_lt_of_le hk hz1)).trans (hc1 k j hk)
 have hz2 : w.heap.size + 4 ≤ w2.heap.size := by have := he2.size; omega
 cases h2 : onB (ax, ay) (bx, b_y) (dx, dy)
 rotate_left
 ·have H := Lib.hid h2; clear h2
  go_wp2_with fail
  go_ret
  exact ⟨ret_bool (by simp [meetB, H.out]), hx2⟩
 have H2 := Lib.hid h2; clear h2
 go_wp2_with fail
 refine (on_any (cx, cy) (dx, dy) (ax, ay) _).mono ?_
 rintro e w3 ⟨rfl, he3⟩
 have hx3 : Ext w w3 := hx2.trans he3
 have hc3 : ∀ k j, k < w.heap.size + 4 → w3.cell? ⟨k, j, none⟩ = _ := fun k j hk => (ext_cells he3 (Nat.lt_of_lt_of_le hk hz2)).trans (hc2 k j hk)
 have hz3 : w.heap.size + 4 ≤ w3.heap.size := by have := he3.size; omega
 cases h3 : onB (cx, cy) (dx, dy) (ax, ay)
 rotate_left
 ·have H := Lib.hid h3; clear h3
  go_wp2_with fail
  go_ret
  exact ⟨ret_bool (by simp [meetB, H.out]), hx3⟩
 have H3 := Lib.hid h3; clear h3
 go_wp2_with fail
 refine (on_any (cx, cy) (dx, dy) (bx, b_y) _).mono ?_
 rintro e w4 ⟨rfl, he4⟩
 have hx4 : Ext w w4 := hx3.trans he4
 have hc4 : ∀ k j, k < w.heap.size + 4 → w4.cell? ⟨k, j, none⟩ = _ := fun k j hk => (ext_cells he4 (Nat.lt_of_lt_of_le hk hz3)).trans (hc3 k j hk)
 have hz4 : w.heap.size + 4 ≤ w4.heap.size := by have := he4.size; omega
 cases h4 : onB (cx, cy) (dx, dy) (bx, b_y)
 rotate_left
 ·have H := Lib.hid h4; clear h4
  go_wp2_with fail
  go_ret
  exact ⟨ret_bool (by simp [meetB, H.out]), hx4⟩
 have H4 := Lib.hid h4; clear h4
 go_wp2_with fail
 refine (parted_any (ax, ay) (bx, b_y) (cx, cy) (dx, dy) _).mono ?_
 rintro e w5 ⟨rfl, he5⟩
 have hx5 : Ext w w5 := hx4.trans he5
 have hc5 : ∀ k j, k < w.heap.size + 4 → w5.cell? ⟨k, j, none⟩ = _ := fun k j hk => (ext_cells he5 (Nat.lt_of_lt_of_le hk hz4)).trans (hc4 k j hk)
 cases h5 : partB (ax, ay) (bx, b_y) (cx, cy) (dx, dy)
 ·have H := Lib.hid h5; clear h5
  go_wp2_with fail
  go_ret
  exact ⟨ret_bool (by simp [meetB, H.out, H1.out, H2.out, H3.out, H4.out]), hx5⟩
 have H5 := Lib.hid h5; clear h5
 go_wp2_with fail
 refine (parted_any (cx, cy) (dx, dy) (ax, ay) (bx, b_y) _).mono ?_
 rintro e w6 ⟨rfl, he6⟩
 go_wp2_with fail
 go_ret
 exact ⟨ret_bool (by simp [meetB, H1.out, H2.out, H3.out, H4.out, H5.out]), hx5.trans he6⟩
def FoundP (p : Spot → Bool) (l : List Spot) (r : Int) : Prop := 0 ≤ r ↔ l.any p = true
def SomeFound (p : Spot → Bool) (l : List Spot) (w : World) (e : Ending) (w' : World) : Prop := ∃ r : Int, FoundP p l r ∧ e = .returned (.int .i64 r) ∧ Ext w w'
theorem found_at {p : Spot → Bool} {l : List Spot} {k : Nat} (hk : k < l.length) (h : p l[k] = true) : FoundP p l (k : Int) :=
 ⟨fun _ => List.any_eq_true.2 ⟨l[k], List.getElem_mem hk, h⟩, fun _ => by omega⟩
theorem any_take_succ {p : Spot → Bool} {l : List Spot} {k : Nat} (hk : k < l.length) (h : (l.take k).any p = false) (h' : p l[k] = false) : (l.take (k + 1)).any p = false := by
 rw [take_succ _ _ hk, List.any_append, h]; simp [h']
theorem found_none {p : Spot → Bool} {l : List Spot} {k : Nat} (hk : l.length ≤ k) (h : (l.take k).any p = false) : FoundP p l (-1) := by
 rw [List.take_of_length_le hk] at h
 exact ⟨fun hh => by omega, fun hh => by rw [h] at hh; cases hh⟩
set_option maxHeartbeats 400000 in
theorem indexFunc_l (A : Option Addr) (n c : Nat) (l : List Spot) (w : World) (ha : SpotsAt w A l) (hl : l.length = n) (hn : n ≤ 9223372036854775807) :
  Calls Tryz.prog 90 #[.slice A n c, .func (.func 72) #[] #[]] w (SomeFound outB l w) := by
 have HL := Lib.hid hl; clear hl
 have HA := Lib.hid ha; clear ha
 go_enter Tryz.func90, Tryz.ntmps90
 go_wp2
 go_loopw [8] (fun i wr => ∃ k : Nat, k ≤ n ∧ i = .int .i64 k ∧ (l.take k).any outB = false ∧ Ext w wr) (fun i _ => n - (intOf i).toNat)
 case atStart => exact ⟨0, Nat.zero_le _, rfl, rfl, Ext.refl _⟩
 case round =>
  obtain ⟨k, hk, rfl, ht, hx⟩ := hrel
  have HT := Lib.hid ht; clear ht
  by_cases hlt : k < n
  ·have hkl : k < l.length := by rw [HL.out]; exact hlt
   obtain ⟨b, off, rfl, hc0, hc1⟩ := (HA.out.ext hx) k hkl
   go_wp2_with fail
   refine (lout_any l[k] _).mono ?_
   rintro e w1 ⟨rfl, he⟩
   cases hp : outB l[k]
   ·have HP := Lib.hid hp; clear hp
    go_wp2_with fail
    go_roundw
    case rel => exact ⟨k + 1, by omega, by go_num, any_take_succ hkl HT.out HP.out, hx.trans he⟩
    case measure => simp [intOf]; omega
   ·have HP := Lib.hid hp; clear hp
    go_wp2_with fail
    go_ret
    exact ⟨_, found_at hkl HP.out, rfl, hx.trans he⟩
  ·go_wp2_with fail
   go_ret
   exact ⟨_, found_none (by rw [HL.out]; omega) HT.out, rfl, hx⟩
theorem containsFunc_l (A : Option Addr) (n c : Nat) (l : List Spot) (w : World) (ha : SpotsAt w A l) (hl : l.length = n) (hn : n ≤ 9223372036854775807) :
  Calls Tryz.prog 62 #[.slice A n c, .func (.func 72) #[] #[]] w fun e w' => e = .returned (.bool (l.any outB)) ∧ Ext w w' := by
 have HL := Lib.hid hl; clear hl
 have HA := Lib.hid ha; clear ha
 go_enter Tryz.func62, Tryz.ntmps62
 go_wp2_with fail
 refine (indexFunc_l A n c l w HA.out HL.out hn).mono ?_
 rintro e w1 ⟨r, hr, rfl, hx⟩
 have HR := Lib.hid hr; clear hr
 go_wp2_with fail
 go_ret
 exact ⟨ret_bool (by have h := HR.out; unfold FoundP at h; rw [Bool.eq_iff_iff, ← h]; simp), hx⟩
set_option maxHeartbeats 400000 in
theorem indexFunc_p (A : Option Addr) (n c : Nat) (l : List Spot) (w : World) (ha : SpotsAt w A l) (hl : l.length = n) (hn : n ≤ 9223372036854775807) :
  Calls Tryz.prog 90 #[.slice A n c, .func (.func 63) #[] #[]] w (SomeFound outB l w) := by
 have HL := Lib.hid hl; clear hl
 have HA := Lib.hid ha; clear ha
 go_enter Tryz.func90, Tryz.ntmps90
 go_wp2
 go_loopw [8] (fun i wr => ∃ k : Nat, k ≤ n ∧ i = .int .i64 k ∧ (l.take k).any outB = false ∧ Ext w wr) (fun i _ => n - (intOf i).toNat)
 case atStart => exact ⟨0, Nat.zero_le _, rfl, rfl, Ext.refl _⟩
 case round =>
  obtain ⟨k, hk, rfl, ht, hx⟩ := hrel
  have HT := Lib.hid ht; clear ht
  by_cases hlt : k < n
  ·have hkl : k < l.length := by rw [HL.out]; exact hlt
   obtain ⟨b, off, rfl, hc0, hc1⟩ := (HA.out.ext hx) k hkl
   go_wp2_with fail
   refine (pout_any l[k] _).mono ?_
   rintro e w1 ⟨rfl, he⟩
   cases hp : outB l[k]
   ·have HP := Lib.hid hp; clear hp
    go_wp2_with fail
    go_roundw
    case rel => exact ⟨k + 1, by omega, by go_num, any_take_succ hkl HT.out HP.out, hx.trans he⟩
    case measure => simp [intOf]; omega
   ·have HP := Lib.hid hp; clear hp
    go_wp2_with fail
    go_ret
    exact ⟨_, found_at hkl HP.out, rfl, hx.trans he⟩
  ·go_wp2_with fail
   go_ret
   exact ⟨_, found_none (by rw [HL.out]; omega) HT.out, rfl, hx⟩
theorem containsFunc_p (A : Option Addr) (n c : Nat) (l : List Spot) (w : World) (ha : SpotsAt w A l) (hl : l.length = n) (hn : n ≤ 9223372036854775807) :
  Calls Tryz.prog 62 #[.slice A n c, .func (.func 63) #[] #[]] w fun e w' => e = .returned (.bool (l.any outB)) ∧ Ext w w' := by
 have HL := Lib.hid hl; clear hl
 have HA := Lib.hid ha; clear ha
 go_enter Tryz.func62, Tryz.ntmps62
 go_wp2_with fail
 refine (indexFunc_p A n c l w HA.out HL.out hn).mono ?_
 rintro e w1 ⟨r, hr, rfl, hx⟩
 have HR := Lib.hid hr; clear hr
 go_wp2_with fail
 go_ret
 exact ⟨ret_bool (by have h := HR.out; unfold FoundP at h; rw [Bool.eq_iff_iff, ← h]; simp), hx⟩
set_option maxHeartbeats 400000 in
theorem index_any (A : Option Addr) (n c : Nat) (l : List Spot) (s : Spot) (w : World) (ha : SpotsAt w A l) (hl : l.length = n) (hn : n ≤ 9223372036854775807) :
  Calls Tryz.prog 113 #[.slice A n c, SV s] w (SomeFound (fun t => decide (s = t)) l w) := by
 have HL := Lib.hid hl; clear hl
 have HA := Lib.hid ha; clear ha
 obtain ⟨x, y⟩ := s
 go_enter Tryz.func113, Tryz.ntmps113
 go_wp2
 go_loopw [8] (fun i wr => ∃ k : Nat, k ≤ n ∧ i = .int .i64 k ∧ (l.take k).any (fun t => decide ((x, y) = t)) = false ∧ Ext (w.alloc (.cells #[.int .i64 x, .int .i64 y] 49)) wr) (fun i _ => n - (intOf i).toNat)
 case atStart => exact ⟨0, Nat.zero_le _, rfl, rfl, Ext.refl _⟩
 case round =>
  obtain ⟨k, hk, rfl, ht, hx⟩ := hrel
  have HT := Lib.hid ht; clear ht
  have hxw : Ext w wr := ((Ext.refl _).alloc _).trans hx
  have hb0 : wr.cell? ⟨w.heap.size, 0, none⟩ = some (.int .i64 x) := hx.cell (by simp [go_sem])
  have hb1 : wr.cell? ⟨w.heap.size, 1, none⟩ = some (.int .i64 y) := hx.cell (by simp [go_sem])
  by_cases hlt : k < n
  ·have hkl : k < l.length := by rw [HL.out]; exact hlt
   obtain ⟨b, off, rfl, hc0, hc1⟩ := (HA.out.ext hxw) k hkl
   have hp0 := eqS_dec (x, y) l[k]
   cases hp : eqS x y l[k].1 l[k].2
   ·have HP : Hid (decide ((x, y) = l[k]) = false) := by rw [← hp0]; exact hp
    clear hp0
    go_wp2
    go_quiet (fail)
    go_wp2
    go_roundw
    case rel => exact ⟨k + 1, by omega, by go_num, any_take_succ hkl HT.out HP.out, hx.drewN _⟩
    case measure => simp [intOf]; omega
   ·have HP : Hid (decide ((x, y) = l[k]) = true) := by rw [← hp0]; exact hp
    clear hp0
    go_wp2
    go_quiet (fail)
    go_wp2
    go_ret
    exact ⟨_, found_at hkl HP.out, rfl, hxw.drewN _⟩
  ·go_wp2_with fail
   go_ret
   exact ⟨_, found_none (by rw [HL.out]; omega) HT.out, rfl, hxw⟩
theorem contains_any (A : Option Addr) (n c : Nat) (l : List Spot) (s : Spot) (w : World) (ha : SpotsAt w A l) (hl : l.length = n) (hn : n ≤ 9223372036854775807) :
  Calls Tryz.prog 91 #[.slice A n c, SV s] w fun e w' => e = .returned (.bool (l.any fun t => decide (s = t))) ∧ Ext w w' := by
 have HL := Lib.hid hl; clear hl
 have HA := Lib.hid ha; clear ha
 obtain ⟨x, y⟩ := s
 go_enter Tryz.func91, Tryz.ntmps91
 go_wp2_with fail
 refine (index_any A n c l (x, y) _ (HA.out.ext ((Ext.refl _).alloc _)) HL.out hn).mono ?_
 rintro e w1 ⟨r, hr, rfl, hx⟩
 have HR := Lib.hid hr; clear hr
 go_wp2_with fail
 go_ret
 exact ⟨ret_bool (by have h := HR.out; unfold FoundP at h; rw [Bool.eq_iff_iff, ← h]; simp), ((Ext.refl _).alloc _).trans hx⟩
def dupF (l : List Spot) (i : Nat) : Bool := !((l.take i).any fun t => decide (gS l i = t))
def meetF (l : List Spot) (n i j : Nat) : Bool := (i + 2 + j + 1) % n == i || !meetB (gS l i) (gS l ((i + 1) % n)) (gS l (i + 2 + j)) (gS l ((i + 2 + j + 1) % n))
def sideF (l : List Spot) (n i : Nat) : Bool := !foldB (gS l i) (gS l ((i + 1) % n)) (gS l ((i + 2) % n)) && allB (meetF l n i) (n - (i + 2))
theorem side_true {l : List Spot} {n i : Nat} (h : foldB (gS l i) (gS l ((i + 1) % n)) (gS l ((i + 2) % n)) = false) (h' : allB (meetF l n i) (n - (i + 2)) = true) : sideF l n i = true := by
 unfold sideF; rw [h, h']; rfl
def simpleB (l : List Spot) : Bool := allB (dupF l) l.length && allB (sideF l l.length) l.length
set_option maxHeartbeats 1000000 in
theorem simple_any (A : Option Addr) (n c : Nat) (l : List Spot) (w : World) (ha : SpotsAt w A l) (hl : l.length = n) (hn : n ≤ c) (hn' : n ≤ 1000) :
  Calls Tryz.prog 64 #[.slice A n c] w fun e w' => e = .returned (.bool (simpleB l)) ∧ Ext w w' := by
 have HL := Lib.hid hl; clear hl
 have HA := Lib.hid ha; clear ha
 go_enter Tryz.func64, Tryz.ntmps64
 go_wp2
 go_loopw [14] (fun i wr => ∃ k : Nat, k ≤ n ∧ i = .int .i64 k ∧ allB (dupF l) k = true ∧ Ext w wr) (fun i _ => n - (intOf i).toNat)
 case atStart => exact ⟨0, Nat.zero_le _, rfl, rfl, Ext.refl _⟩
 case round =>
  obtain ⟨k, hk, rfl, ht, hx⟩ := hrel
  have HT := Lib.hid ht; clear ht
  by_cases hlt : k < n
  ·have hkl : k < l.length := by rw [HL.out]; exact hlt
   obtain ⟨b, off, rfl, hc0, hc1⟩ := (HA.out.ext hx).g hkl
   go_wp2
   refine wp_at fun w0 hw0 => ?_
   have he0 : Ext wr w0 := by rw [hw0]; exact (Ext.refl _).alloc _
   have c0 : w0.cell? ⟨wr.heap.size, 0, none⟩ = some (.int .i64 (gS l k).1) := by rw [hw0]; simp [go_sem]
   have c1 : w0.cell? ⟨wr.heap.size, 1, none⟩ = some (.int .i64 (gS l k).2) := by rw [hw0]; simp [go_sem]
   clear hw0 hc0 hc1
   have d0 := fun z : After w0 => After.cell c0 z
   have d1 := fun z : After w0 => After.cell c1 z
   refine region_ext (by kernel_rfl) (by kernel_rfl) ?_
   repeat (go_big_quiet_step (
    (go_at_call 91; exact after_call (contains_any _ k c (l.take k) (gS l k) _ (((HA.out.ext hx).ext he0).ext (After.ext _) |>.take k) (by rw [List.length_take]; omega) (by omega)))))
   refine wpQuiet_nil ?_
   rintro w1 ⟨⟨_, he⟩, rfl⟩
   cases hp : (l.take k).any fun t => decide (gS l k = t)
   ·have HP := Lib.hid hp; clear hp
    go_wp2_with fail
    go_roundw
    case rel => exact ⟨k + 1, by omega, by go_num, allB_succ HT.out (by unfold dupF; rw [HP.out]; rfl), (hx.trans he0).trans he⟩
    case measure => simp [intOf]; omega
   ·have HP := Lib.hid hp; clear hp
    go_wp2_with fail
    go_ret
    exact ⟨ret_bool (by unfold simpleB; rw [allB_false (k := k) (by rw [HL.out]; exact hlt) (by unfold dupF; rw [HP.out]; rfl)]; rfl), (hx.trans he0).trans he⟩
  ·obtain rfl : k = n := by omega
   clear hlt hk
   go_wp2_with fail
   go_loopw [27] (fun i wr => ∃ j : Nat, j ≤ k ∧ i = .int .i64 j ∧ allB (sideF l k) j = true ∧ Ext w wr) (fun i _ => k - (intOf i).toNat)
   case atStart => exact ⟨0, Nat.zero_le _, rfl, rfl, hx⟩
   case round =>
    clear hx
    obtain ⟨i, hi, rfl, hs, hx⟩ := hrel
    have HS := Lib.hid hs; clear hs
    by_cases hlt : i < k
    ·have hil : i < l.length := by rw [HL.out]; exact hlt
     have hm1 : (i + 1) % k < k := Nat.mod_lt _ (by omega)
     have hm2 : (i + 2) % k < k := Nat.mod_lt _ (by omega)
     obtain ⟨b, off, rfl, hc0, hc1⟩ := (HA.out.ext hx).g hil
     obtain ⟨hd0, hd1⟩ := (HA.out.ext hx).at1 (k := (i + 1) % k) (by rw [HL.out]; exact hm1)
     obtain ⟨hf0, hf1⟩ := (HA.out.ext hx).at1 (k := (i + 2) % k) (by rw [HL.out]; exact hm2)
     have hbl : b < wr.heap.size := cell_lt hc0
     have hbl1 : b < wr.heap.size + 1 := by omega
     obtain ⟨hj0, hj1, hj2⟩ := mod_idx i k 1 1 rfl (by omega)
     go_wp2
     clear hj0 hj1 hj2
     refine wp_at fun w0 hw0 => ?_
     have he0 : Ext wr w0 := by rw [hw0]; exact ((Ext.refl _).alloc _).alloc _
     have c0 : w0.cell? ⟨wr.heap.size, 0, none⟩ = some (.int .i64 (gS l i).1) := by rw [hw0]; simp [go_sem]
     have c1 : w0.cell? ⟨wr.heap.size, 1, none⟩ = some (.int .i64 (gS l i).2) := by rw [hw0]; simp [go_sem]
     have c2 : w0.cell? ⟨wr.heap.size + 1, 0, none⟩ = some (.int .i64 (gS l ((i + 1) % k)).1) := by rw [hw0]; simp [go_sem]
     have c3 : w0.cell? ⟨wr.heap.size + 1, 1, none⟩ = some (.int .i64 (gS l ((i + 1) % k)).2) := by rw [hw0]; simp [go_sem]
     clear hw0 hc0 hc1 hd0 hd1 hbl hbl1
     have c4 := he0.cell hf0
     have c5 := he0.cell hf1
     clear hf0 hf1
     have d0 := fun z : After w0 => After.cell c0 z
     have d1 := fun z : After w0 => After.cell c1 z
     have d2 := fun z : After w0 => After.cell c2 z
     have d3 := fun z : After w0 => After.cell c3 z
     have d4 := fun z : After w0 => After.cell c4 z
     have d5 := fun z : After w0 => After.cell c5 z
     obtain ⟨hi0, hi1, hi2⟩ := mod_idx i k 2 2 rfl (by omega)
     refine region_ext (by kernel_rfl) (by kernel_rfl) ?_
     repeat (go_big_quiet_step (
      (go_at_call 92; exact after_call (folded_any (gS l i) (gS l ((i + 1) % k)) (gS l ((i + 2) % k)) _))))
     refine wpQuiet_nil ?_
     rintro w1 ⟨⟨_, he⟩, rfl⟩
     clear d0 d1 d2 d3 d4 d5 c4 c5 hi0 hi1 hi2
     cases hp : foldB (gS l i) (gS l ((i + 1) % k)) (gS l ((i + 2) % k))
     case true =>
      have HP := Lib.hid hp; clear hp
      go_wp2_with fail
      go_ret
      exact ⟨ret_bool (by unfold simpleB; rw [allB_false (k := i) (n := l.length) (f := sideF l l.length) (by rw [HL.out]; exact hlt) (by unfold sideF; rw [HL.out, HP.out]; rfl)]; simp), (hx.trans he0).trans he⟩
     have HP := Lib.hid hp; clear hp
     have hx1 : Ext w w1 := (hx.trans he0).trans he
     have e0 := he.cell c0
     have e1 := he.cell c1
     have e2 := he.cell c2
     have e3 := he.cell c3
     clear c0 c1 c2 c3
     obtain ⟨sb, hsb⟩ : ∃ sb, sb = wr.heap.size := ⟨_, rfl⟩
     rw [← hsb] at e0 e1 e2 e3
     rw [← hsb]
     clear hsb he0 he hx
     go_wp2_with fail
     go_loopw [9] (fun v wq => ∃ j : Nat, j ≤ k - (i + 2) ∧ v = .int .i64 ((i : Int) + 2 + j) ∧ allB (meetF l k i) j = true ∧ Ext w1 wq) (fun v _ => k + 2 - (intOf v).toNat)
     case atStart => exact ⟨0, Nat.zero_le _, by simp, rfl, Ext.refl _⟩
     case round =>
      obtain ⟨wq, rfl⟩ : ∃ wq : World, wq = wr := ⟨_, rfl⟩
      obtain ⟨j, hj, rfl, hs, hy⟩ := hrel
      have HJ := Lib.hid hs; clear hs
      have g0 := hy.cell e0
      have g1 := hy.cell e1
      have g2 := hy.cell e2
      have g3 := hy.cell e3
      by_cases hjk : i + 2 + j < k
      ·have hjk' : (i : Int) + 2 + j < k := by omega
       obtain ⟨q0, q1, q2⟩ : 0 ≤ ((i : Int) + 2 + j + 1) % k ∧ ((i : Int) + 2 + j + 1) % k < k ∧ (((i : Int) + 2 + j + 1) % k).toNat = (i + 2 + j + 1) % k := by
        have h := mod_idx (i + 2 + j) k 1 1 rfl (by omega)
        simpa using h
       by_cases hq : (i + 2 + j + 1) % k = i
       ·have hqb : (((i : Int) + 2 + j + 1) % k != i) = false := by
         have : ((i : Int) + 2 + j + 1) % k = i := by omega
         simp [this]
        have hend : i + 2 + j + 1 = k := by
         rcases Nat.lt_or_ge (i + 2 + j + 1) k with h | h
         ·rw [Nat.mod_eq_of_lt h] at hq; omega
         ·omega
        have HQ := Lib.hid hq; clear hq
        have HE := Lib.hid hend; clear hend
        clear q2
        go_wp2_with fail
        go_roundw
        case rel => exact ⟨i + 1, by omega, by go_num, allB_succ HS.out (side_true HP.out (by
         have h := HE.out
         rw [show k - (i + 2) = j + 1 from by omega]
         exact allB_succ HJ.out (by unfold meetF; rw [HQ.out]; simp))), hx1.trans hy⟩
        case measure => simp [intOf]; omega
       ·have hqb : (((i : Int) + 2 + j + 1) % k != i) = true := by
         have : ¬ ((i : Int) + 2 + j + 1) % k = i := by omega
         simp [this]
        have HQ := Lib.hid hq; clear hq
        obtain ⟨f0, f1⟩ := (HA.out.ext (hx1.trans hy)).at1 (k := i + 2 + j) (by rw [HL.out]; exact hjk)
        obtain ⟨f2, f3⟩ := (HA.out.ext (hx1.trans hy)).at1 (k := (i + 2 + j + 1) % k) (by rw [HL.out]; exact Nat.mod_lt _ (by omega))
        have hn0 : 0 ≤ (i : Int) + 2 + j := by omega
        have hn1 : ((i : Int) + 2 + j).toNat = i + 2 + j := by omega
        go_wp2
        have d0 := fun z : After wq => After.cell g0 z
        have d1 := fun z : After wq => After.cell g1 z
        have d2 := fun z : After wq => After.cell g2 z
        have d3 := fun z : After wq => After.cell g3 z
        have d4 := fun z : After wq => After.cell f0 z
        have d5 := fun z : After wq => After.cell f1 z
        have d6 := fun z : After wq => After.cell f2 z
        have d7 := fun z : After wq => After.cell f3 z
        refine region_ext (by kernel_rfl) (by kernel_rfl) ?_
        repeat (go_big_quiet_step (
         (go_at_call 93; exact after_call (meet_any (gS l i) (gS l ((i + 1) % k)) (gS l (i + 2 + j)) (gS l ((i + 2 + j + 1) % k)) _))))
        refine wpQuiet_nil ?_
        rintro w2 ⟨⟨_, he⟩, rfl⟩
        clear d0 d1 d2 d3 d4 d5 d6 d7
        cases hp : meetB (gS l i) (gS l ((i + 1) % k)) (gS l (i + 2 + j)) (gS l ((i + 2 + j + 1) % k))
        ·have HM := Lib.hid hp; clear hp
         go_wp2_with fail
         go_roundw
         case rel => exact ⟨j + 1, by omega, by go_num, allB_succ HJ.out (by unfold meetF; rw [HM.out]; simp), hy.trans he⟩
         case measure => simp [intOf]; omega
        ·have HM := Lib.hid hp; clear hp
         go_wp2_with fail
         go_ret
         exact ⟨ret_bool (by
          unfold simpleB
          rw [allB_false (k := i) (n := l.length) (f := sideF l l.length) (by rw [HL.out]; exact hlt) (by
           unfold sideF
           rw [HL.out, allB_false (k := j) (by omega) (by unfold meetF; rw [HM.out]; simp; exact HQ.out)]; simp)]
          simp), (hx1.trans hy).trans he⟩
      ·have hjk' : ¬ (i : Int) + 2 + j < k := by omega
       go_wp2_with fail
       go_roundw
       case rel => exact ⟨i + 1, by omega, by go_num, allB_succ HS.out (side_true HP.out (by
        have h : k - (i + 2) = j := by omega
        rw [h]; exact HJ.out)), hx1.trans hy⟩
       case measure => simp [intOf]; omega
    ·go_wp2_with fail
     go_ret
     exact ⟨ret_bool (by
      obtain rfl : i = k := by omega
      unfold simpleB
      rw [HL.out, HT.out, HS.out]; rfl), hx⟩
def stepF (l : List Spot) (i : Nat) : Bool := !decide (gS l i = gS l (i + 1))
def lcheck (l : List Spot) : Int := if 40 < l.length then 5 else if l.length < 2 then 11 else if l.any outB = true then 3 else if allB (stepF l) (l.length - 1) = true then 0 else 11
def pcheck (l : List Spot) : Int := if 40 < l.length then 5 else if l.length < 3 then 11 else if l.any outB = true then 3 else if simpleB l = true then 0 else 11
set_option maxHeartbeats 400000 in
theorem pcheck_any (A : Option Addr) (n c : Nat) (l : List Spot) (w : World) (ha : SpotsAt w A l) (hl : l.length = n) (hn : n ≤ c) :
  Calls Tryz.prog 31 #[.slice A n c] w fun e w' => e = .returned (.int .i64 (pcheck l)) ∧ Ext w w' := by
 have HL := Lib.hid hl; clear hl
 have HA := Lib.hid ha; clear ha
 by_cases h40 : 40 < n
 ·go_enter Tryz.func31, Tryz.ntmps31
  go_wp2_with fail
  go_ret
  exact ⟨ret_int (by unfold pcheck; rw [HL.out, if_pos h40]), Ext.refl _⟩
 by_cases h3 : n < 3
 ·go_enter Tryz.func31, Tryz.ntmps31
  go_wp2_with fail
  go_ret
  exact ⟨ret_int (by unfold pcheck; rw [HL.out, if_neg (by omega), if_pos h3]), Ext.refl _⟩
 go_enter Tryz.func31, Tryz.ntmps31
 go_wp2_with fail
 refine (containsFunc_p A n c l w HA.out HL.out (by omega)).mono ?_
 rintro e w1 ⟨rfl, hx⟩
 cases hp : l.any outB
 case true =>
  have HP := Lib.hid hp; clear hp
  go_wp2_with fail
  go_ret
  exact ⟨ret_int (by unfold pcheck; rw [HL.out, if_neg (by omega), if_neg (by omega), if_pos HP.out]), hx⟩
 have HP := Lib.hid hp; clear hp
 go_wp2_with fail
 refine (simple_any A n c l w1 (HA.out.ext hx) HL.out hn (by omega)).mono ?_
 rintro e w2 ⟨rfl, hx2⟩
 cases hp : simpleB l
 ·have HS := Lib.hid hp; clear hp
  go_wp2_with fail
  go_ret
  exact ⟨ret_int (by unfold pcheck; rw [HL.out, if_neg (by omega), if_neg (by omega), if_neg (by rw [HP.out]; decide), if_neg (by rw [HS.out]; decide)]), hx.trans hx2⟩
 ·have HS := Lib.hid hp; clear hp
  go_wp2_with fail
  go_ret
  exact ⟨ret_int (by unfold pcheck; rw [HL.out, if_neg (by omega), if_neg (by omega), if_neg (by rw [HP.out]; decide), if_pos HS.out]), hx.trans hx2⟩
set_option maxHeartbeats 400000 in
theorem lcheck_any (A : Option Addr) (n c : Nat) (l : List Spot) (w : World) (ha : SpotsAt w A l) (hl : l.length = n) :
  Calls Tryz.prog 43 #[.slice A n c] w fun e w' => e = .returned (.int .i64 (lcheck l)) ∧ Ext w w' := by
 have HL := Lib.hid hl; clear hl
 have HA := Lib.hid ha; clear ha
 by_cases h40 : 40 < n
 ·go_enter Tryz.func43, Tryz.ntmps43
  go_wp2_with fail
  go_ret
  exact ⟨ret_int (by unfold lcheck; rw [HL.out, if_pos h40]), Ext.refl _⟩
 by_cases h3 : n < 2
 ·go_enter Tryz.func43, Tryz.ntmps43
  go_wp2_with fail
  go_ret
  exact ⟨ret_int (by unfold lcheck; rw [HL.out, if_neg (by omega), if_pos h3]), Ext.refl _⟩
 go_enter Tryz.func43, Tryz.ntmps43
 go_wp2_with fail
 refine (containsFunc_l A n c l w HA.out HL.out (by omega)).mono ?_
 rintro e w1 ⟨rfl, hx⟩
 cases hp : l.any outB
 case true =>
  have HP := Lib.hid hp; clear hp
  go_wp2_with fail
  go_ret
  exact ⟨ret_int (by unfold lcheck; rw [HL.out, if_neg (by omega), if_neg (by omega), if_pos HP.out]), hx⟩
 have HP := Lib.hid hp; clear hp
 go_wp2_with fail
 go_loopw [15] (fun i wr => ∃ k : Nat, k ≤ n - 1 ∧ i = .int .i64 k ∧ allB (stepF l) k = true ∧ Ext w wr) (fun i _ => n - (intOf i).toNat)
 case atStart => exact ⟨0, Nat.zero_le _, rfl, rfl, hx⟩
 case round =>
  clear hx
  obtain ⟨k, hk, rfl, ht, hx⟩ := hrel
  have HT := Lib.hid ht; clear ht
  by_cases hlt : k < n - 1
  ·have hlt' : (k : Int) < (n : Int) - 1 := by omega
   obtain ⟨b, off, rfl, hc0, hc1⟩ := (HA.out.ext hx).g (k := k) (by rw [HL.out]; omega)
   obtain ⟨hd0, hd1⟩ := (HA.out.ext hx).at1 (k := k + 1) (by rw [HL.out]; omega)
   have hs1 : IntKind.i64.wrap ((k : Int) + 1) = k + 1 := IntWalk.i64_in _ (by omega)
   have hs2 : ((k : Int) + 1).toNat = k + 1 := by omega
   have hs3 : (k : Int) + 1 < n := by omega
   have hs4 : 0 ≤ (k : Int) + 1 := by omega
   have hp0 := eqS_dec (gS l k) (gS l (k + 1))
   cases hp : eqS (gS l k).1 (gS l k).2 (gS l (k + 1)).1 (gS l (k + 1)).2
   ·have HS : Hid (stepF l k = true) := by show stepF l k = true; unfold stepF; rw [← hp0, hp]; rfl
    clear hp0
    go_wp2
    go_quiet (fail)
    clear hs1 hs2 hs4
    go_wp2
    go_roundw
    case rel => exact ⟨k + 1, by omega, by go_num, allB_succ HT.out HS.out, hx.drewN _⟩
    case measure => simp [intOf]; omega
   ·have HS : Hid (stepF l k = false) := by show stepF l k = false; unfold stepF; rw [← hp0, hp]; rfl
    clear hp0
    go_wp2
    go_quiet (fail)
    clear hs1 hs2 hs4
    go_wp2
    go_ret
    exact ⟨ret_int (by
     unfold lcheck
     rw [HL.out, if_neg (by omega), if_neg (by omega), if_neg (by rw [HP.out]; decide), if_neg]
     rw [allB_false hlt HS.out]; decide), hx.drewN _⟩
  ·have hlt' : ¬ (k : Int) < (n : Int) - 1 := by omega
   go_wp2
   go_ret
   exact ⟨ret_int (by
     unfold lcheck
     rw [HL.out, if_neg (by omega), if_neg (by omega), if_neg (by rw [HP.out]; decide), if_pos]
     obtain rfl : k = n - 1 := by omega
     exact HT.out), hx⟩
end Go.Proofs.YtfegbaokcbjllaaGreat
