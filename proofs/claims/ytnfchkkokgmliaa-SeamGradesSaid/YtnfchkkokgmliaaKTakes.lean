/- seam.takes -/
import Derived.Laws.BitsAllLaws
import Derived.Laws.BitsLemmas
import Derived.IntWalk
import Derived.Deep.Cut
import Derived.Test.YtnfchkkokgmliaaKApplyD
import Derived.Test.YtnfchkkokgmliaaKWd
/- turn.Apply -/
namespace Go.Proofs.Ytnfchkkokgmliaa
open Go.RowKit
theorem and3 (q : Int) : bits .and .i64 q 3 = q % 4 := by
  show IntKind.i64.wrap ((BitVec.ofInt 64 q &&& BitVec.ofInt 64 3).toNat : Int) = q % 4
  have h3 : (BitVec.ofInt 64 3).toNat = 2 ^ 2 - 1 := by decide
  rw [BitVec.toNat_and, h3, Nat.and_two_pow_sub_one_eq_mod, BitVec.toNat_ofInt, IntKind.wrap_i64]
  omega
theorem quarts_succ (n : Nat) (s : Spot) : quarts (n + 1) s = quart (quarts n s) := rfl
set_option maxRecDepth 100000 in
set_option maxHeartbeats 800000 in
theorem apply_f (q : Int) (s : Spot) (w : World) :
    Calls Try.prog 8 #[TV false q, SV s] w fun e w' => e = .returned (SV (applyT false q s)) ∧ Ext w w' := by
  obtain ⟨x, y⟩ := s
  have ha := and3 q
  obtain ⟨r, hr⟩ : ∃ r : Nat, q % 4 = r := ⟨(q % 4).toNat, by omega⟩
  have hr4 : r < 4 := by omega
  have HR : Hid ((q % 4).toNat = r) := by show (q % 4).toNat = r; omega
  rw [hr] at ha
  clear hr
  obtain ⟨s0, hs0⟩ : ∃ s0, s0 = flipS false (x, y) := ⟨_, rfl⟩
  have HS0 := Lib.hid hs0; clear hs0
  go_enter Try.func8, Try.ntmps8
  go_wp2_with fail
  clear ha
  go_loopw [14] (fun i wr => ∃ k : Nat, k ≤ r ∧ i = .int .i64 k ∧ BlkS wr (w.heap.size + 1) [quarts k s0] ∧ BlkS wr (w.heap.size + 1 + 1) [(0, 0)] ∧ Ext w wr) (fun i _ => r - (intOf i).toNat)
  case atStart =>
    refine ⟨0, Nat.zero_le _, rfl, ?_, ?_, (((Ext.refl w).alloc _).alloc _).alloc _⟩
    · rw [HS0.out]
      have h := (BlkS.new (w.alloc (.cells #[.bool false, .int .i64 q] 36)) [quarts 0 (flipS false (x, y))]).ext ((Ext.refl _).alloc (.cells #[.int .i64 0, .int .i64 0] 38))
      simpa [scells, quarts, flipS] using h
    · have h := BlkS.new ((w.alloc (.cells #[.bool false, .int .i64 q] 36)).alloc (.cells (scells [flipS false (x, y)]).toArray 38)) [(0, 0)]
      simpa [scells, flipS] using h
  case round =>
    obtain ⟨k, hk, rfl, hB, hZ, hx⟩ := hrel
    have c0 : wr.cell? ⟨w.heap.size + 1, 0, none⟩ = some (.int .i64 (quarts k s0).1) := by rw [hB.cell]; rfl
    have c1 : wr.cell? ⟨w.heap.size + 1, 1, none⟩ = some (.int .i64 (quarts k s0).2) := by rw [hB.cell]; rfl
    have f0 := hB.frozen 0
    have f1 := hB.frozen 1
    have z0 : wr.cell? ⟨w.heap.size + 1 + 1, 0, none⟩ = some (.int .i64 0) := by rw [hZ.cell]; rfl
    have z1 : wr.cell? ⟨w.heap.size + 1 + 1, 1, none⟩ = some (.int .i64 0) := by rw [hZ.cell]; rfl
    have g0 := hZ.frozen 0
    have g1 := hZ.frozen 1
    have HB := Lib.hid hB; have HZ := Lib.hid hZ; clear hB hZ
    by_cases hlt : k < r
    · go_wp2_with fail
      go_roundw
      case rel =>
        refine ⟨k + 1, by omega, by go_num, ?_, ?_, ?_⟩
        · have h := HB.out.set 0 (quart (quarts k s0))
          simpa [quarts_succ, quart] using h
        · exact (HZ.out.other (by simp) _).other (by simp) _
        · exact (hx.setCell (by simp) _).setCell (by simp) _
      case measure => simp [intOf]; omega
    · go_wp2_with fail
      obtain rfl : k = r := by omega
      refine bodyPost_ret (v := SV (applyT false q (x, y))) (by
        have e : applyT false q (x, y) = quarts k s0 := by unfold applyT; rw [HR.out, HS0.out]
        rw [e]
        simp [results, Try.results8, go_sem, z0, z1]) rfl ⟨rfl, ?_⟩
      exact (hx.setCell (by simp; omega) _).setCell (by simp; omega) _
set_option maxRecDepth 100000 in
set_option maxHeartbeats 800000 in
theorem apply_t (q : Int) (s : Spot) (w : World) :
    Calls Try.prog 8 #[TV true q, SV s] w fun e w' => e = .returned (SV (applyT true q s)) ∧ Ext w w' := by
  obtain ⟨x, y⟩ := s
  have ha := and3 q
  obtain ⟨r, hr⟩ : ∃ r : Nat, q % 4 = r := ⟨(q % 4).toNat, by omega⟩
  have hr4 : r < 4 := by omega
  have HR : Hid ((q % 4).toNat = r) := by show (q % 4).toNat = r; omega
  rw [hr] at ha
  clear hr
  obtain ⟨s0, hs0⟩ : ∃ s0, s0 = flipS true (x, y) := ⟨_, rfl⟩
  have HS0 := Lib.hid hs0; clear hs0
  go_enter Try.func8, Try.ntmps8
  go_wp2_with fail
  clear ha
  go_loopw [14] (fun i wr => ∃ k : Nat, k ≤ r ∧ i = .int .i64 k ∧ BlkS wr (w.heap.size + 1) [quarts k s0] ∧ BlkS wr (w.heap.size + 1 + 1) [(0, 0)] ∧ Ext w wr) (fun i _ => r - (intOf i).toNat)
  case atStart =>
    refine ⟨0, Nat.zero_le _, rfl, ?_, ?_, (((Ext.refl w).alloc _).alloc _).alloc _⟩
    · rw [HS0.out]
      have h := (BlkS.new (w.alloc (.cells #[.bool true, .int .i64 q] 36)) [quarts 0 (flipS true (x, y))]).ext ((Ext.refl _).alloc (.cells #[.int .i64 0, .int .i64 0] 38))
      simpa [scells, quarts, flipS] using h
    · have h := BlkS.new ((w.alloc (.cells #[.bool true, .int .i64 q] 36)).alloc (.cells (scells [flipS true (x, y)]).toArray 38)) [(0, 0)]
      simpa [scells, flipS] using h
  case round =>
    obtain ⟨k, hk, rfl, hB, hZ, hx⟩ := hrel
    have c0 : wr.cell? ⟨w.heap.size + 1, 0, none⟩ = some (.int .i64 (quarts k s0).1) := by rw [hB.cell]; rfl
    have c1 : wr.cell? ⟨w.heap.size + 1, 1, none⟩ = some (.int .i64 (quarts k s0).2) := by rw [hB.cell]; rfl
    have f0 := hB.frozen 0
    have f1 := hB.frozen 1
    have z0 : wr.cell? ⟨w.heap.size + 1 + 1, 0, none⟩ = some (.int .i64 0) := by rw [hZ.cell]; rfl
    have z1 : wr.cell? ⟨w.heap.size + 1 + 1, 1, none⟩ = some (.int .i64 0) := by rw [hZ.cell]; rfl
    have g0 := hZ.frozen 0
    have g1 := hZ.frozen 1
    have HB := Lib.hid hB; have HZ := Lib.hid hZ; clear hB hZ
    by_cases hlt : k < r
    · go_wp2_with fail
      go_roundw
      case rel =>
        refine ⟨k + 1, by omega, by go_num, ?_, ?_, ?_⟩
        · have h := HB.out.set 0 (quart (quarts k s0))
          simpa [quarts_succ, quart] using h
        · exact (HZ.out.other (by simp) _).other (by simp) _
        · exact (hx.setCell (by simp) _).setCell (by simp) _
      case measure => simp [intOf]; omega
    · go_wp2_with fail
      obtain rfl : k = r := by omega
      refine bodyPost_ret (v := SV (applyT true q (x, y))) (by
        have e : applyT true q (x, y) = quarts k s0 := by unfold applyT; rw [HR.out, HS0.out]
        rw [e]
        simp [results, Try.results8, go_sem, z0, z1]) rfl ⟨rfl, ?_⟩
      exact (hx.setCell (by simp; omega) _).setCell (by simp; omega) _
theorem apply_any (f : Bool) (q : Int) (s : Spot) (w : World) :
    Calls Try.prog 8 #[TV f q, SV s] w fun e w' => e = .returned (SV (applyT f q s)) ∧ Ext w w' := by
  cases f
  · exact apply_f q s w
  · exact apply_t q s w
end Go.Proofs.Ytnfchkkokgmliaa
namespace Go.Proofs.Ytnfchkkokgmliaa
open Go.RowKit
def tkF (f : Bool) (q : Int) (d : Spot) (a b : List Spot) (i : Nat) : Bool := (wrap64 ((applyT f q (gS a i)).1 + d.1) == (gS b i).1) && (wrap64 ((applyT f q (gS a i)).2 + d.2) == (gS b i).2)
set_option maxRecDepth 100000 in
set_option maxHeartbeats 1600000 in
theorem takes_any (A B : Option Addr) (n ca cb : Nat) (f : Bool) (q : Int) (d : Spot) (a b : List Spot) (w : World) (ha : SpotsAt w A a) (hb : SpotsAt w B b) (hla : a.length = n) (hlb : b.length = n) (hn : n ≤ 1000) :
    Calls Try.prog 19 #[TV f q, SV d, .slice A n ca, .slice B n cb] w fun e w' => e = .returned (.bool (allB (tkF f q d a b) n)) ∧ Ext w w' := by
  obtain ⟨dx, dy⟩ := d
  have HA := Lib.hid ha; have HB := Lib.hid hb; have HLA := Lib.hid hla; have HLB := Lib.hid hlb; clear ha hb hla hlb
  go_enter Try.func19, Try.ntmps19
  go_wp2_with fail
  refine wp_at fun W0 hW0 => ?_
  have hT : Blk 36 W0 w.heap.size [.bool f, .int .i64 q] := by rw [hW0]; exact (Blk.new' rfl).ext ((Ext.refl _).alloc _)
  have hD : Blk 38 W0 (w.heap.size + 1) [.int .i64 dx, .int .i64 dy] := by rw [hW0]; exact Blk.new' (by simp)
  have hx0 : Ext w W0 := by rw [hW0]; exact ((Ext.refl _).alloc _).alloc _
  have HT := Lib.hid hT; have HD := Lib.hid hD; have HX0 := Lib.hid hx0; clear hW0 hT hD hx0
  go_loopw [14] (fun i wr => ∃ k : Nat, k ≤ n ∧ i = .int .i64 k ∧ allB (tkF f q (dx, dy) a b) k = true ∧ Ext W0 wr) (fun i _ => n - (intOf i).toNat)
  case atStart => exact ⟨0, Nat.zero_le _, rfl, rfl, Ext.refl _⟩
  case round =>
    obtain ⟨k, hk, rfl, ht, hx⟩ := hrel
    have HAL := Lib.hid ht; have HX := Lib.hid hx; clear ht hx
    by_cases hlt : k < n
    · obtain ⟨ba, oa, hA, c0, c1⟩ := (HA.out.ext (HX0.out.trans HX.out)).g (k := k) (by rw [HLA.out]; exact hlt)
      subst hA
      obtain ⟨t0, t1⟩ := blk2 (HT.out.ext HX.out)
      have hpl : w.heap.size < wr.heap.size := cell_lt t0
      go_wp2_with fail
      refine (apply_any f q (gS a k) _).mono ?_
      rintro e w1 ⟨rfl, he1⟩
      have HX1 := Lib.hid (HX.out.trans (((Ext.refl _).alloc _).trans he1)); clear he1 c0 c1 t0 t1 hpl
      have HF : Hid (tkF f q (dx, dy) a b k = ((wrap64 ((applyT f q (gS a k)).1 + dx) == (gS b k).1) && (wrap64 ((applyT f q (gS a k)).2 + dy) == (gS b k).2))) := rfl
      obtain ⟨I, hI⟩ : ∃ I, I = applyT f q (gS a k) := ⟨_, rfl⟩
      rw [← hI] at HF ⊢
      clear hI
      obtain ⟨bb, ob, hB, e0, e1⟩ := (HB.out.ext (HX0.out.trans HX1.out)).g (k := k) (by rw [HLB.out]; exact hlt)
      subst hB
      go_upto_region 5 with fail
      refine wp_at fun W2 hW2 => ?_
      have hx2 : Ext w1 W2 := by rw [hW2]; exact (Ext.refl _).alloc _
      have hI2 : Blk 38 W2 w1.heap.size [.int .i64 I.1, .int .i64 I.2] := by rw [hW2]; exact Blk.new' rfl
      obtain ⟨i0, i1⟩ := blk2 hI2
      obtain ⟨d0, d1⟩ := blk2 (HD.out.ext (HX1.out.trans hx2))
      have g0 := hx2.cell e0
      have g1 := hx2.cell e1
      have HX2 := Lib.hid (HX1.out.trans hx2)
      clear hW2 hx2 hI2 e0 e1
      have z0 := fun z : After W2 => After.cell i0 z
      have z1 := fun z : After W2 => After.cell i1 z
      have z2 := fun z : After W2 => After.cell d0 z
      have z3 := fun z : After W2 => After.cell d1 z
      have z4 := fun z : After W2 => After.cell g0 z
      have z5 := fun z : After W2 => After.cell g1 z
      cases hb1 : (wrap64 (I.1 + dx) != (gS b k).1)
      · have H1 : Hid ((wrap64 (I.1 + dx) == (gS b k).1) = true) := by show _ = _; simpa using hb1
        cases hb2 : (wrap64 (I.2 + dy) != (gS b k).2)
        · have H2 : Hid ((wrap64 (I.2 + dy) == (gS b k).2) = true) := by show _ = _; simpa using hb2
          refine region_ext (by kernel_rfl) (by kernel_rfl) ?_
          repeat (first | go_big_quiet_step (fail) | (go_big_quiet_want; go_simp; go_big_quiet_on))
          refine wpQuiet_nil ?_
          rintro w3 ⟨⟨_, he⟩, rfl⟩
          clear z0 z1 z2 z3 z4 z5 hb1 hb2
          go_wp2_with fail
          go_roundw
          case rel => exact ⟨k + 1, by omega, by go_num, allB_succ HAL.out (by rw [HF.out, H1.out, H2.out]; rfl), HX2.out.trans he⟩
          case measure => simp [intOf]; omega
        · have H2 : Hid ((wrap64 (I.2 + dy) == (gS b k).2) = false) := by show _ = _; simpa using hb2
          refine region_ext (by kernel_rfl) (by kernel_rfl) ?_
          repeat (first | go_big_quiet_step (fail) | (go_big_quiet_want; go_simp; go_big_quiet_on))
          refine wpQuiet_nil ?_
          rintro w3 ⟨⟨_, he⟩, rfl⟩
          clear z0 z1 z2 z3 z4 z5 hb1 hb2
          go_wp2_with fail
          go_ret
          exact ⟨ret_bool (by rw [allB_false (k := k) hlt (by rw [HF.out, H1.out, H2.out]; rfl)]), HX0.out.trans (HX2.out.trans he)⟩
      · have H1 : Hid ((wrap64 (I.1 + dx) == (gS b k).1) = false) := by show _ = _; simpa using hb1
        refine region_ext (by kernel_rfl) (by kernel_rfl) ?_
        repeat (first | go_big_quiet_step (fail) | (go_big_quiet_want; go_simp; go_big_quiet_on))
        refine wpQuiet_nil ?_
        rintro w3 ⟨⟨_, he⟩, rfl⟩
        clear z0 z1 z2 z3 z4 z5 hb1
        go_wp2_with fail
        go_ret
        exact ⟨ret_bool (by rw [allB_false (k := k) hlt (by rw [HF.out, H1.out]; rfl)]), HX0.out.trans (HX2.out.trans he)⟩
    · obtain rfl : k = n := by omega
      go_wp2_with fail
      go_ret
      exact ⟨ret_bool HAL.out.symm, HX0.out.trans HX.out⟩
end Go.Proofs.Ytnfchkkokgmliaa
