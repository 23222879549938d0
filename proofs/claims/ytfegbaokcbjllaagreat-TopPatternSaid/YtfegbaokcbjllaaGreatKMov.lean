/- grade.rounded, corner, moved -/
import Derived.Laws.MakeOwn
import Derived.RegionTactic
import Derived.Test.YtfegbaokcbjllaaGreatKOwn
import Derived.Test.YtfegbaokcbjllaaGreatKTail
namespace Go.Proofs.YtfegbaokcbjllaaGreat
open Go.RowKit
def rnd (a b : Int) : Int := if a < 0 then -((2 * (-a) + b) / (2 * b)) else (2 * a + b) / (2 * b)
theorem rounded_pos (a b : Int) (w : World) (h0 : 0 ≤ a) (h1 : a ≤ 1000000000000000) (hb : 1 ≤ b) (hb' : b ≤ 1000) :
  Calls Tryz.prog 71 #[.int .i64 a, .int .i64 b] w fun e w' => e = .returned (.int .i64 ((2 * a + b) / (2 * b))) ∧ w = w' := by
 have hd : decide (a < 0) = false := by simp; omega
 have hne : (2 * b == 0) = false := by simp; omega
 go_enter Tryz.func71, Tryz.ntmps71
 go_wp2_with fail
 go_ret
 exact ⟨rfl, rfl⟩
theorem rounded_any (a b : Int) (w : World) (h0 : -1000000000000000 ≤ a) (h1 : a ≤ 1000000000000000) (hb : 1 ≤ b) (hb' : b ≤ 1000) :
  Calls Tryz.prog 71 #[.int .i64 a, .int .i64 b] w fun e w' => e = .returned (.int .i64 (rnd a b)) ∧ w = w' := by
 by_cases ha : a < 0
 ·have hq0 : 0 ≤ (2 * (-a) + b) / (2 * b) := Int.ediv_nonneg (by omega) (by omega)
  have hq1 : (2 * (-a) + b) / (2 * b) ≤ 2 * (-a) + b := Int.ediv_le_self _ (by omega)
  go_enter Tryz.func71, Tryz.ntmps71
  go_wp2_with fail
  refine (rounded_pos (-a) b _ (by omega) (by omega) hb hb').mono ?_
  rintro e w1 ⟨rfl, rfl⟩
  go_wp2_with fail
  go_ret
  exact ⟨ret_int (by unfold rnd; rw [if_pos ha]), rfl⟩
 ·exact (rounded_pos a b w (by omega) h1 hb hb').mono fun e w' ⟨he, hw⟩ => ⟨by rw [he]; exact ret_int (by unfold rnd; rw [if_neg ha]), hw⟩
def mulS (m : Int) (s : Spot) : Spot := (wrap64 (m * s.1), wrap64 (m * s.2))
set_option maxHeartbeats 800000 in
theorem corner_any (A : Option Addr) (n c i : Nat) (m : Int) (l : List Spot) (w : World) (ha : SpotsAt w A l) (hl : l.length = n) (hn : 1 ≤ n) (hn' : n ≤ 1000) (hi : i ≤ 1000) :
  Calls Tryz.prog 40 #[.agg #[.slice A n c, .int .i64 m], .int .i64 i] w fun e w' => e = .returned (SV (mulS m (gS l (i % n)))) ∧ Ext w w' := by
 have hm : i % n < n := Nat.mod_lt _ (by omega)
 obtain ⟨b, off, rfl, hc0, hc1⟩ := ha.g (k := i % n) (by rw [hl]; exact hm)
 clear ha hl
 have hbl : b < w.heap.size := cell_lt hc0
 have hm0 : 0 ≤ (i : Int) % n := by
  have : ((i : Int) % n) = ((i % n : Nat) : Int) := by simp
  omega
 have hm1 : (i : Int) % n < n := by
  have : ((i : Int) % n) = ((i % n : Nat) : Int) := by simp
  omega
 have hm2 : ((i : Int) % n).toNat = i % n := by
  have : ((i : Int) % n) = ((i % n : Nat) : Int) := by simp
  omega
 have hnz : ((n : Int) == 0) = false := by simp; omega
 have hi0 : 0 ≤ (i : Int) := by omega
 go_enter Tryz.func40, Tryz.ntmps40
 go_wp2_with fail
 refine wp_at fun w0 hw0 => ?_
 have he0 : Ext w w0 := by rw [hw0]; exact ((Ext.refl _).alloc _).alloc _
 obtain ⟨c0, c1, c4, c5, f4, f5⟩ : w0.cell? ⟨w.heap.size, 0, none⟩ = some (.slice (some ⟨b, off, none⟩) n c) ∧ w0.cell? ⟨w.heap.size, 1, none⟩ = some (.int .i64 m) ∧ w0.cell? ⟨w.heap.size + 1, 0, none⟩ = some (.int .i64 0) ∧ w0.cell? ⟨w.heap.size + 1, 1, none⟩ = some (.int .i64 0) ∧ w0.frozen? ⟨w.heap.size + 1, 0, none⟩ = false ∧ w0.frozen? ⟨w.heap.size + 1, 1, none⟩ = false := by rw [hw0]; simp [go_sem]
 clear hw0
 have k2 := he0.cell hc0
 have k3 := he0.cell hc1
 have kz : w.heap.size + 1 < w0.heap.size := cell_lt c5
 have kz0 : w.heap.size < w0.heap.size := by omega
 have kb : b < w0.heap.size := cell_lt k2
 clear hc0 hc1 hbl
 go_region
 go_wp2_with fail
 refine bodyPost_ret (v := SV (mulS m (gS l (i % n)))) (by simp [results, Tryz.results40, go_sem, c4, c5, kz, mulS]) rfl ⟨rfl, ?_⟩
 repeat (first | exact he0 | refine Ext.drew ?_ | refine Ext.drewN ?_ _ | refine Ext.alloc ?_ _ | refine Ext.setCell ?_ (by simp <;> omega) _)
theorem corner_int (A : Option Addr) (n c : Nat) (i m : Int) (l : List Spot) (w : World) (ha : SpotsAt w A l) (hl : l.length = n) (hn : 1 ≤ n) (hn' : n ≤ 1000) (hi : 0 ≤ i) (hi' : i ≤ 1000) :
  Calls Tryz.prog 40 #[.agg #[.slice A n c, .int .i64 m], .int .i64 i] w fun e w' => e = .returned (SV (mulS m (gS l (i.toNat % n)))) ∧ Ext w w' := by
 obtain ⟨j, rfl⟩ := Int.eq_ofNat_of_zero_le hi
 exact corner_any A n c j m l w ha hl hn hn' (by omega)
/- moved -/
def mvx (a b v : Int) (s k : Int) : Int := wrap64 (v + rnd ((s - k) * a + k * b) s)
def mvS (l : List Spot) (a b : Spot) (k : Nat) : Spot := (mvx a.1 b.1 (gS l k).1 (l.length - 1) k, mvx a.2 b.2 (gS l k).2 (l.length - 1) k)
def movedS (l : List Spot) (a b : Spot) : List Spot := (List.range l.length).map (mvS l a b)
theorem movedS_len (l : List Spot) (a b : Spot) : (movedS l a b).length = l.length := by simp [movedS]
theorem make_spots (n : Nat) (hn : n ≤ 100000) (w : World) : (Instr.makeSlice 38 (.int .i64 n) (.int .i64 n)).run Tryz.prog w = .ok (.slice (some ⟨w.heap.size, 0, none⟩) n n) (w.alloc (.cells (madeCells #[.int .i64 0, .int .i64 0] (n * 2)) 49)) := by
 have h := run_make (P := Tryz.prog) w 38 49 (i := ((Tryz.prog.info? 49).getD default)) (z := .agg #[.int .i64 0, .int .i64 0]) Tryz.underlying38 (by kernel_rfl) (by kernel_rfl) .i64 .i64 n n (by omega) (by omega) (by
  rw [show ((Tryz.prog.info? 49).getD default).bytes = 16 from by kernel_rfl]; omega) (by omega)
 rw [show ((Tryz.prog.info? 49).getD default).size = 2 from by kernel_rfl] at h
 simpa [Value.cells] using h
/- a row of spots of the call's own, known whole -/
theorem made_two (n : Nat) : madeCells #[.int .i64 0, .int .i64 0] (n * 2) = (scells (List.replicate n (0, 0))).toArray := by
 apply Array.ext
 ·simp [size_madeCells, scells_length]
 ·intro i h1 h2
  have hi : i < n * 2 := by simpa [size_madeCells] using h1
  have key : (scells (List.replicate n (0, 0)))[i]? = some (.int .i64 0) := by
   obtain ⟨k, rfl | rfl⟩ : ∃ k, i = k * 2 ∨ i = k * 2 + 1 := ⟨i / 2, by omega⟩
   ·rw [scells_even, List.getElem?_replicate, if_pos (by omega)]; rfl
   ·rw [scells_odd, List.getElem?_replicate, if_pos (by omega)]; rfl
  have k2 := (List.getElem?_eq_some_iff.1 key).2
  have e : i % 2 = 0 ∨ i % 2 = 1 := Nat.mod_two_eq_zero_or_one i
  simp only [List.getElem_toArray, k2]
  simp only [madeCells, Array.getElem_map, Array.getElem_range]
  rcases e with e | e <;> simp [e]
end Go.Proofs.YtfegbaokcbjllaaGreat
