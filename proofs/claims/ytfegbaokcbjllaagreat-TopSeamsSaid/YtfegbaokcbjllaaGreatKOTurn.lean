/- outline.Turned -/
import Derived.Laws.BitsAllLaws
import Derived.Laws.BitsLemmas
import Derived.RegionTactic
import Derived.Deep.AppendLies
import Derived.Test.YtfegbaokcbjllaaGreatKOwnI
import Derived.Test.YtfegbaokcbjllaaGreatKTurnD
/- turn.Apply -/
namespace Go.Proofs.YtfegbaokcbjllaaGreat
open Go.RowKit
theorem and3 (q : Int) : bits .and .i64 q 3 = q % 4 := by
 show IntKind.i64.wrap ((BitVec.ofInt 64 q &&& BitVec.ofInt 64 3).toNat : Int) = q % 4
 have h3 : (BitVec.ofInt 64 3).toNat = 2 ^ 2 - 1 := by decide
 rw [BitVec.toNat_and, h3, Nat.and_two_pow_sub_one_eq_mod, BitVec.toNat_ofInt, IntKind.wrap_i64]
 omega
theorem quarts_succ (n : Nat) (s : Spot) : quarts (n + 1) s = quart (quarts n s) := rfl
set_option maxRecDepth 100000 in
set_option maxHeartbeats 800000 in
theorem apply_f (q : Int) (s : Spot) (w : World) :
  Calls Tryz.prog 25 #[TV false q, SV s] w fun e w' => e = .returned (SV (applyT false q s)) ∧ Ext w w' := by
 obtain ⟨x, y⟩ := s
 have ha := and3 q
 obtain ⟨r, hr⟩ : ∃ r : Nat, q % 4 = r := ⟨(q % 4).toNat, by omega⟩
 have hr4 : r < 4 := by omega
 have HR : Hid ((q % 4).toNat = r) := by show (q % 4).toNat = r; omega
 rw [hr] at ha
 clear hr
 obtain ⟨s0, hs0⟩ : ∃ s0, s0 = flipS false (x, y) := ⟨_, rfl⟩
 have HS0 := Lib.hid hs0; clear hs0
 go_enter Tryz.func25, Tryz.ntmps25
 go_wp2_with fail
 clear ha
 go_loopw [14] (fun i wr => ∃ k : Nat, k ≤ r ∧ i = .int .i64 k ∧ BlkS wr (w.heap.size + 1) [quarts k s0] ∧ BlkS wr (w.heap.size + 1 + 1) [(0, 0)] ∧ Ext w wr) (fun i _ => r - (intOf i).toNat)
 case atStart =>
  refine ⟨0, Nat.zero_le _, rfl, ?_, ?_, (((Ext.refl w).alloc _).alloc _).alloc _⟩
  ·rw [HS0.out]
   have h := (BlkS.new (w.alloc (.cells #[.bool false, .int .i64 q] 31)) [quarts 0 (flipS false (x, y))]).ext ((Ext.refl _).alloc (.cells #[.int .i64 0, .int .i64 0] 49))
   simpa [scells, quarts, flipS] using h
  ·have h := BlkS.new ((w.alloc (.cells #[.bool false, .int .i64 q] 31)).alloc (.cells (scells [flipS false (x, y)]).toArray 49)) [(0, 0)]
   simpa [scells, flipS] using h
 case round =>
  obtain ⟨k, hk, rfl, hB, hZ, hx⟩ := hrel
  have c0 : wr.cell? ⟨w.heap.size + 1, 0, none⟩ = some (.int .i64 (quarts k s0).1) := by rw [hB.cell]; rfl
  have c1 : wr.cell? ⟨w.heap.size + 1, 1, none⟩ = some (.int .i64 (quarts k s0).2) := by rw [hB.cell]; rfl
  have f0 := hB.frozen 0
  have f1 := hB.frozen 1
  have z0 : wr.cell? ⟨w.heap.size + 1 + 1, 0, none⟩ = some (.int .i64 0) := by rw [hZ.cell]; rfl
  have z1 : wr.cell? ⟨w.heap.size + 1 + 1, 1, none⟩ = some (.int .i64 0) := by rw [hZ.cell]; rfl
  have g0 := hZ.frozen 0
  have g1 := hZ.frozen 1
  have HB := Lib.hid hB; have HZ := Lib.hid hZ; clear hB hZ
  by_cases hlt : k < r
  ·go_wp2_with fail
   go_roundw
   case rel =>
    refine ⟨k + 1, by omega, by go_num, ?_, ?_, ?_⟩
    ·have h := HB.out.set 0 (quart (quarts k s0))
     simpa [quarts_succ, quart] using h
    ·exact (HZ.out.other (by simp) _).other (by simp) _
    ·exact (hx.setCell (by simp) _).setCell (by simp) _
   case measure => simp [intOf]; omega
  ·go_wp2_with fail
   obtain rfl : k = r := by omega
   refine bodyPost_ret (v := SV (applyT false q (x, y))) (by
    have e : applyT false q (x, y) = quarts k s0 := by unfold applyT; rw [HR.out, HS0.out]
    rw [e]
    simp [results, Tryz.results25, go_sem, z0, z1]) rfl ⟨rfl, ?_⟩
   exact (hx.setCell (by simp; omega) _).setCell (by simp; omega) _
set_option maxRecDepth 100000 in
set_option maxHeartbeats 800000 in
theorem apply_t (q : Int) (s : Spot) (w : World) :
  Calls Tryz.prog 25 #[TV true q, SV s] w fun e w' => e = .returned (SV (applyT true q s)) ∧ Ext w w' := by
 obtain ⟨x, y⟩ := s
 have ha := and3 q
 obtain ⟨r, hr⟩ : ∃ r : Nat, q % 4 = r := ⟨(q % 4).toNat, by omega⟩
 have hr4 : r < 4 := by omega
 have HR : Hid ((q % 4).toNat = r) := by show (q % 4).toNat = r; omega
 rw [hr] at ha
 clear hr
 obtain ⟨s0, hs0⟩ : ∃ s0, s0 = flipS true (x, y) := ⟨_, rfl⟩
 have HS0 := Lib.hid hs0; clear hs0
 go_enter Tryz.func25, Tryz.ntmps25
 go_wp2_with fail
 clear ha
 go_loopw [14] (fun i wr => ∃ k : Nat, k ≤ r ∧ i = .int .i64 k ∧ BlkS wr (w.heap.size + 1) [quarts k s0] ∧ BlkS wr (w.heap.size + 1 + 1) [(0, 0)] ∧ Ext w wr) (fun i _ => r - (intOf i).toNat)
 case atStart =>
  refine ⟨0, Nat.zero_le _, rfl, ?_, ?_, (((Ext.refl w).alloc _).alloc _).alloc _⟩
  ·rw [HS0.out]
   have h := (BlkS.new (w.alloc (.cells #[.bool true, .int .i64 q] 31)) [quarts 0 (flipS true (x, y))]).ext ((Ext.refl _).alloc (.cells #[.int .i64 0, .int .i64 0] 49))
   simpa [scells, quarts, flipS] using h
  ·have h := BlkS.new ((w.alloc (.cells #[.bool true, .int .i64 q] 31)).alloc (.cells (scells [flipS true (x, y)]).toArray 49)) [(0, 0)]
   simpa [scells, flipS] using h
 case round =>
  obtain ⟨k, hk, rfl, hB, hZ, hx⟩ := hrel
  have c0 : wr.cell? ⟨w.heap.size + 1, 0, none⟩ = some (.int .i64 (quarts k s0).1) := by rw [hB.cell]; rfl
  have c1 : wr.cell? ⟨w.heap.size + 1, 1, none⟩ = some (.int .i64 (quarts k s0).2) := by rw [hB.cell]; rfl
  have f0 := hB.frozen 0
  have f1 := hB.frozen 1
  have z0 : wr.cell? ⟨w.heap.size + 1 + 1, 0, none⟩ = some (.int .i64 0) := by rw [hZ.cell]; rfl
  have z1 : wr.cell? ⟨w.heap.size + 1 + 1, 1, none⟩ = some (.int .i64 0) := by rw [hZ.cell]; rfl
  have g0 := hZ.frozen 0
  have g1 := hZ.frozen 1
  have HB := Lib.hid hB; have HZ := Lib.hid hZ; clear hB hZ
  by_cases hlt : k < r
  ·go_wp2_with fail
   go_roundw
   case rel =>
    refine ⟨k + 1, by omega, by go_num, ?_, ?_, ?_⟩
    ·have h := HB.out.set 0 (quart (quarts k s0))
     simpa [quarts_succ, quart] using h
    ·exact (HZ.out.other (by simp) _).other (by simp) _
    ·exact (hx.setCell (by simp) _).setCell (by simp) _
   case measure => simp [intOf]; omega
  ·go_wp2_with fail
   obtain rfl : k = r := by omega
   refine bodyPost_ret (v := SV (applyT true q (x, y))) (by
    have e : applyT true q (x, y) = quarts k s0 := by unfold applyT; rw [HR.out, HS0.out]
    rw [e]
    simp [results, Tryz.results25, go_sem, z0, z1]) rfl ⟨rfl, ?_⟩
   exact (hx.setCell (by simp; omega) _).setCell (by simp; omega) _
theorem apply_any (f : Bool) (q : Int) (s : Spot) (w : World) :
  Calls Tryz.prog 25 #[TV f q, SV s] w fun e w' => e = .returned (SV (applyT f q s)) ∧ Ext w w' := by
 cases f
 ·exact apply_f q s w
 ·exact apply_t q s w
end Go.Proofs.YtfegbaokcbjllaaGreat
