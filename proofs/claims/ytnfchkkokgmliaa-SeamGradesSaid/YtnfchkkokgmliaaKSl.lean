/- slices.IndexFunc, ContainsFunc (at the two functions 'outside'), Index, Contains over spots -/
import Derived.Test.YtnfchkkokgmliaaKL2
/- meet -/
namespace Go.Proofs.Ytnfchkkokgmliaa
open Go.RowKit
def meetB (a b c d : Spot) : Bool := onB a b c || (onB a b d || (onB c d a || (onB c d b || (partB a b c d && partB c d a b))))
set_option maxHeartbeats 1000000 in
theorem meet_any (a b c d : Spot) (w : World) :
    Calls Try.prog 45 #[SV a, SV b, SV c, SV d] w fun e w' => e = .returned (.bool (meetB a b c d)) ∧ Ext w w' := by
  obtain ⟨ax, ay⟩ := a; obtain ⟨bx, b_y⟩ := b; obtain ⟨cx, cy⟩ := c; obtain ⟨dx, dy⟩ := d
  go_enter Try.func45, Try.ntmps45
  go_wp2_with fail
  refine (on_any (ax, ay) (bx, b_y) (cx, cy) _).mono ?_
  rintro e w1 ⟨rfl, he1⟩
  have hx1 : Ext w w1 := (((((Ext.refl w).alloc _).alloc _).alloc _).alloc _).trans he1
  have hc1 : ∀ k j, k < w.heap.size + 4 → w1.cell? ⟨k, j, none⟩ = _ := fun k j hk => ext_cells he1 (by simp; omega)
  have hz1 : w.heap.size + 4 ≤ w1.heap.size := by have := he1.size; simp at this; omega
  cases h1 : onB (ax, ay) (bx, b_y) (cx, cy)
  rotate_left
  · have H := Lib.hid h1; clear h1
    go_wp2_with fail
    go_ret
    exact ⟨ret_bool (by simp [meetB, H.out]), hx1⟩
  have H1 := Lib.hid h1; clear h1
  go_wp2_with fail
  refine (on_any (ax, ay) (bx, b_y) (dx, dy) _).mono ?_
  rintro e w2 ⟨rfl, he2⟩
  have hx2 : Ext w w2 := hx1.trans he2
  have hc2 : ∀ k j, k < w.heap.size + 4 → w2.cell? ⟨k, j, none⟩ = _ := fun k j hk => (ext_cells he2 (Nat.lt_of_lt_of_le hk hz1)).trans (hc1 k j hk)
  have hz2 : w.heap.size + 4 ≤ w2.heap.size := by have := he2.size; omega
  cases h2 : onB (ax, ay) (bx, b_y) (dx, dy)
  rotate_left
  · have H := Lib.hid h2; clear h2
    go_wp2_with fail
    go_ret
    exact ⟨ret_bool (by simp [meetB, H.out]), hx2⟩
  have H2 := Lib.hid h2; clear h2
  go_wp2_with fail
  refine (on_any (cx, cy) (dx, dy) (ax, ay) _).mono ?_
  rintro e w3 ⟨rfl, he3⟩
  have hx3 : Ext w w3 := hx2.trans he3
  have hc3 : ∀ k j, k < w.heap.size + 4 → w3.cell? ⟨k, j, none⟩ = _ := fun k j hk => (ext_cells he3 (Nat.lt_of_lt_of_le hk hz2)).trans (hc2 k j hk)
  have hz3 : w.heap.size + 4 ≤ w3.heap.size := by have := he3.size; omega
  cases h3 : onB (cx, cy) (dx, dy) (ax, ay)
  rotate_left
  · have H := Lib.hid h3; clear h3
    go_wp2_with fail
    go_ret
    exact ⟨ret_bool (by simp [meetB, H.out]), hx3⟩
  have H3 := Lib.hid h3; clear h3
  go_wp2_with fail
  refine (on_any (cx, cy) (dx, dy) (bx, b_y) _).mono ?_
  rintro e w4 ⟨rfl, he4⟩
  have hx4 : Ext w w4 := hx3.trans he4
  have hc4 : ∀ k j, k < w.heap.size + 4 → w4.cell? ⟨k, j, none⟩ = _ := fun k j hk => (ext_cells he4 (Nat.lt_of_lt_of_le hk hz3)).trans (hc3 k j hk)
  have hz4 : w.heap.size + 4 ≤ w4.heap.size := by have := he4.size; omega
  cases h4 : onB (cx, cy) (dx, dy) (bx, b_y)
  rotate_left
  · have H := Lib.hid h4; clear h4
    go_wp2_with fail
    go_ret
    exact ⟨ret_bool (by simp [meetB, H.out]), hx4⟩
  have H4 := Lib.hid h4; clear h4
  go_wp2_with fail
  refine (parted_any (ax, ay) (bx, b_y) (cx, cy) (dx, dy) _).mono ?_
  rintro e w5 ⟨rfl, he5⟩
  have hx5 : Ext w w5 := hx4.trans he5
  have hc5 : ∀ k j, k < w.heap.size + 4 → w5.cell? ⟨k, j, none⟩ = _ := fun k j hk => (ext_cells he5 (Nat.lt_of_lt_of_le hk hz4)).trans (hc4 k j hk)
  cases h5 : partB (ax, ay) (bx, b_y) (cx, cy) (dx, dy)
  · have H := Lib.hid h5; clear h5
    go_wp2_with fail
    go_ret
    exact ⟨ret_bool (by simp [meetB, H.out, H1.out, H2.out, H3.out, H4.out]), hx5⟩
  have H5 := Lib.hid h5; clear h5
  go_wp2_with fail
  refine (parted_any (cx, cy) (dx, dy) (ax, ay) (bx, b_y) _).mono ?_
  rintro e w6 ⟨rfl, he6⟩
  go_wp2_with fail
  go_ret
  exact ⟨ret_bool (by simp [meetB, H1.out, H2.out, H3.out, H4.out, H5.out]), hx5.trans he6⟩
end Go.Proofs.Ytnfchkkokgmliaa
namespace Go.Proofs.Ytnfchkkokgmliaa
open Go.RowKit
def FoundP (p : Spot → Bool) (l : List Spot) (r : Int) : Prop := 0 ≤ r ↔ l.any p = true
def SomeFound (p : Spot → Bool) (l : List Spot) (w : World) (e : Ending) (w' : World) : Prop := ∃ r : Int, FoundP p l r ∧ e = .returned (.int .i64 r) ∧ Ext w w'
theorem found_at {p : Spot → Bool} {l : List Spot} {k : Nat} (hk : k < l.length) (h : p l[k] = true) : FoundP p l (k : Int) :=
  ⟨fun _ => List.any_eq_true.2 ⟨l[k], List.getElem_mem hk, h⟩, fun _ => by omega⟩
theorem any_take_succ {p : Spot → Bool} {l : List Spot} {k : Nat} (hk : k < l.length) (h : (l.take k).any p = false) (h' : p l[k] = false) : (l.take (k + 1)).any p = false := by
  rw [take_succ _ _ hk, List.any_append, h]; simp [h']
theorem found_none {p : Spot → Bool} {l : List Spot} {k : Nat} (hk : l.length ≤ k) (h : (l.take k).any p = false) : FoundP p l (-1) := by
  rw [List.take_of_length_le hk] at h
  exact ⟨fun hh => by omega, fun hh => by rw [h] at hh; cases hh⟩

set_option maxHeartbeats 400000 in
theorem indexFunc_l (A : Option Addr) (n c : Nat) (l : List Spot) (w : World) (ha : SpotsAt w A l) (hl : l.length = n) (hn : n ≤ 9223372036854775807) :
    Calls Try.prog 39 #[.slice A n c, .func (.func 33) #[] #[]] w (SomeFound outB l w) := by
  have HL := Lib.hid hl; clear hl
  have HA := Lib.hid ha; clear ha
  go_enter Try.func39, Try.ntmps39
  go_wp2
  go_loopw [8] (fun i wr => ∃ k : Nat, k ≤ n ∧ i = .int .i64 k ∧ (l.take k).any outB = false ∧ Ext w wr) (fun i _ => n - (intOf i).toNat)
  case atStart => exact ⟨0, Nat.zero_le _, rfl, rfl, Ext.refl _⟩
  case round =>
    obtain ⟨k, hk, rfl, ht, hx⟩ := hrel
    have HT := Lib.hid ht; clear ht
    by_cases hlt : k < n
    · have hkl : k < l.length := by rw [HL.out]; exact hlt
      obtain ⟨b, off, rfl, hc0, hc1⟩ := (HA.out.ext hx) k hkl
      go_wp2_with fail
      refine (lout_any l[k] _).mono ?_
      rintro e w1 ⟨rfl, he⟩
      cases hp : outB l[k]
      · have HP := Lib.hid hp; clear hp
        go_wp2_with fail
        go_roundw
        case rel => exact ⟨k + 1, by omega, by go_num, any_take_succ hkl HT.out HP.out, hx.trans he⟩
        case measure => simp [intOf]; omega
      · have HP := Lib.hid hp; clear hp
        go_wp2_with fail
        go_ret
        exact ⟨_, found_at hkl HP.out, rfl, hx.trans he⟩
    · go_wp2_with fail
      go_ret
      exact ⟨_, found_none (by rw [HL.out]; omega) HT.out, rfl, hx⟩
theorem containsFunc_l (A : Option Addr) (n c : Nat) (l : List Spot) (w : World) (ha : SpotsAt w A l) (hl : l.length = n) (hn : n ≤ 9223372036854775807) :
    Calls Try.prog 32 #[.slice A n c, .func (.func 33) #[] #[]] w fun e w' => e = .returned (.bool (l.any outB)) ∧ Ext w w' := by
  have HL := Lib.hid hl; clear hl
  have HA := Lib.hid ha; clear ha
  go_enter Try.func32, Try.ntmps32
  go_wp2_with fail
  refine (indexFunc_l A n c l w HA.out HL.out hn).mono ?_
  rintro e w1 ⟨r, hr, rfl, hx⟩
  have HR := Lib.hid hr; clear hr
  go_wp2_with fail
  go_ret
  exact ⟨ret_bool (by have h := HR.out; unfold FoundP at h; rw [Bool.eq_iff_iff, ← h]; simp), hx⟩

set_option maxHeartbeats 400000 in
theorem indexFunc_p (A : Option Addr) (n c : Nat) (l : List Spot) (w : World) (ha : SpotsAt w A l) (hl : l.length = n) (hn : n ≤ 9223372036854775807) :
    Calls Try.prog 39 #[.slice A n c, .func (.func 37) #[] #[]] w (SomeFound outB l w) := by
  have HL := Lib.hid hl; clear hl
  have HA := Lib.hid ha; clear ha
  go_enter Try.func39, Try.ntmps39
  go_wp2
  go_loopw [8] (fun i wr => ∃ k : Nat, k ≤ n ∧ i = .int .i64 k ∧ (l.take k).any outB = false ∧ Ext w wr) (fun i _ => n - (intOf i).toNat)
  case atStart => exact ⟨0, Nat.zero_le _, rfl, rfl, Ext.refl _⟩
  case round =>
    obtain ⟨k, hk, rfl, ht, hx⟩ := hrel
    have HT := Lib.hid ht; clear ht
    by_cases hlt : k < n
    · have hkl : k < l.length := by rw [HL.out]; exact hlt
      obtain ⟨b, off, rfl, hc0, hc1⟩ := (HA.out.ext hx) k hkl
      go_wp2_with fail
      refine (pout_any l[k] _).mono ?_
      rintro e w1 ⟨rfl, he⟩
      cases hp : outB l[k]
      · have HP := Lib.hid hp; clear hp
        go_wp2_with fail
        go_roundw
        case rel => exact ⟨k + 1, by omega, by go_num, any_take_succ hkl HT.out HP.out, hx.trans he⟩
        case measure => simp [intOf]; omega
      · have HP := Lib.hid hp; clear hp
        go_wp2_with fail
        go_ret
        exact ⟨_, found_at hkl HP.out, rfl, hx.trans he⟩
    · go_wp2_with fail
      go_ret
      exact ⟨_, found_none (by rw [HL.out]; omega) HT.out, rfl, hx⟩
theorem containsFunc_p (A : Option Addr) (n c : Nat) (l : List Spot) (w : World) (ha : SpotsAt w A l) (hl : l.length = n) (hn : n ≤ 9223372036854775807) :
    Calls Try.prog 32 #[.slice A n c, .func (.func 37) #[] #[]] w fun e w' => e = .returned (.bool (l.any outB)) ∧ Ext w w' := by
  have HL := Lib.hid hl; clear hl
  have HA := Lib.hid ha; clear ha
  go_enter Try.func32, Try.ntmps32
  go_wp2_with fail
  refine (indexFunc_p A n c l w HA.out HL.out hn).mono ?_
  rintro e w1 ⟨r, hr, rfl, hx⟩
  have HR := Lib.hid hr; clear hr
  go_wp2_with fail
  go_ret
  exact ⟨ret_bool (by have h := HR.out; unfold FoundP at h; rw [Bool.eq_iff_iff, ← h]; simp), hx⟩

set_option maxHeartbeats 400000 in
theorem index_any (A : Option Addr) (n c : Nat) (l : List Spot) (s : Spot) (w : World) (ha : SpotsAt w A l) (hl : l.length = n) (hn : n ≤ 9223372036854775807) :
    Calls Try.prog 48 #[.slice A n c, SV s] w (SomeFound (fun t => decide (s = t)) l w) := by
  have HL := Lib.hid hl; clear hl
  have HA := Lib.hid ha; clear ha
  obtain ⟨x, y⟩ := s
  go_enter Try.func48, Try.ntmps48
  go_wp2
  go_loopw [8] (fun i wr => ∃ k : Nat, k ≤ n ∧ i = .int .i64 k ∧ (l.take k).any (fun t => decide ((x, y) = t)) = false ∧ Ext (w.alloc (.cells #[.int .i64 x, .int .i64 y] 38)) wr) (fun i _ => n - (intOf i).toNat)
  case atStart => exact ⟨0, Nat.zero_le _, rfl, rfl, Ext.refl _⟩
  case round =>
    obtain ⟨k, hk, rfl, ht, hx⟩ := hrel
    have HT := Lib.hid ht; clear ht
    have hxw : Ext w wr := ((Ext.refl _).alloc _).trans hx
    have hb0 : wr.cell? ⟨w.heap.size, 0, none⟩ = some (.int .i64 x) := hx.cell (by simp [go_sem])
    have hb1 : wr.cell? ⟨w.heap.size, 1, none⟩ = some (.int .i64 y) := hx.cell (by simp [go_sem])
    by_cases hlt : k < n
    · have hkl : k < l.length := by rw [HL.out]; exact hlt
      obtain ⟨b, off, rfl, hc0, hc1⟩ := (HA.out.ext hxw) k hkl
      have hp0 := eqS_dec (x, y) l[k]
      cases hp : eqS x y l[k].1 l[k].2
      · have HP : Hid (decide ((x, y) = l[k]) = false) := by rw [← hp0]; exact hp
        clear hp0
        go_wp2
        go_quiet (fail)
        go_wp2
        go_roundw
        case rel => exact ⟨k + 1, by omega, by go_num, any_take_succ hkl HT.out HP.out, hx.drewN _⟩
        case measure => simp [intOf]; omega
      · have HP : Hid (decide ((x, y) = l[k]) = true) := by rw [← hp0]; exact hp
        clear hp0
        go_wp2
        go_quiet (fail)
        go_wp2
        go_ret
        exact ⟨_, found_at hkl HP.out, rfl, hxw.drewN _⟩
    · go_wp2_with fail
      go_ret
      exact ⟨_, found_none (by rw [HL.out]; omega) HT.out, rfl, hxw⟩
theorem contains_any (A : Option Addr) (n c : Nat) (l : List Spot) (s : Spot) (w : World) (ha : SpotsAt w A l) (hl : l.length = n) (hn : n ≤ 9223372036854775807) :
    Calls Try.prog 43 #[.slice A n c, SV s] w fun e w' => e = .returned (.bool (l.any fun t => decide (s = t))) ∧ Ext w w' := by
  have HL := Lib.hid hl; clear hl
  have HA := Lib.hid ha; clear ha
  obtain ⟨x, y⟩ := s
  go_enter Try.func43, Try.ntmps43
  go_wp2_with fail
  refine (index_any A n c l (x, y) _ (HA.out.ext ((Ext.refl _).alloc _)) HL.out hn).mono ?_
  rintro e w1 ⟨r, hr, rfl, hx⟩
  have HR := Lib.hid hr; clear hr
  go_wp2_with fail
  go_ret
  exact ⟨ret_bool (by have h := HR.out; unfold FoundP at h; rw [Bool.eq_iff_iff, ← h]; simp), ((Ext.refl _).alloc _).trans hx⟩
end Go.Proofs.Ytnfchkkokgmliaa
