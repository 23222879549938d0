/- The law TopSeams: for every input it returns true and leaves its arguments as they were. No conditions. -/
import Derived.IntWalk
import Derived.Deep.Cut
import Derived.Deep.CutRange
import Derived.Deep.RegionHeld3
import Derived.RegionTactic
import Derived.ProofKit
import Derived.Deep.Slices
import Derived.Lib.SmallJoins
import Derived.OpenShut
import Derived.Test.YtfegbaokcbjllaaGreatRows
import Derived.Test.YtfegbaokcbjllaaGreatKPn
import Derived.Test.YtfegbaokcbjllaaGreatKPatt
import Derived.Test.YtfegbaokcbjllaaGreatKUnm
/- seam.takes -/
namespace Go.Proofs.YtfegbaokcbjllaaGreat
open Go.RowKit
def tkF (f : Bool) (q : Int) (d : Spot) (a b : List Spot) (i : Nat) : Bool := (wrap64 ((applyT f q (gS a i)).1 + d.1) == (gS b i).1) && (wrap64 ((applyT f q (gS a i)).2 + d.2) == (gS b i).2)
set_option maxRecDepth 100000 in
set_option maxHeartbeats 1600000 in
theorem takes_any (A B : Option Addr) (n ca cb : Nat) (f : Bool) (q : Int) (d : Spot) (a b : List Spot) (w : World) (ha : SpotsAt w A a) (hb : SpotsAt w B b) (hla : a.length = n) (hlb : b.length = n) (hn : n ≤ 1000) :
  Calls Tryz.prog 42 #[TV f q, SV d, .slice A n ca, .slice B n cb] w fun e w' => e = .returned (.bool (allB (tkF f q d a b) n)) ∧ Ext w w' := by
 obtain ⟨dx, dy⟩ := d
 have HA := Lib.hid ha; have HB := Lib.hid hb; have HLA := Lib.hid hla; have HLB := Lib.hid hlb; clear ha hb hla hlb
 go_enter Tryz.func42, Tryz.ntmps42
 go_wp2_with fail
 refine wp_at fun W0 hW0 => ?_
 have hT : Blk 31 W0 w.heap.size [.bool f, .int .i64 q] := by rw [hW0]; exact (Blk.new' rfl).ext ((Ext.refl _).alloc _)
 have hD : Blk 49 W0 (w.heap.size + 1) [.int .i64 dx, .int .i64 dy] := by rw [hW0]; exact Blk.new' (by simp)
 have hx0 : Ext w W0 := by rw [hW0]; exact ((Ext.refl _).alloc _).alloc _
 have HT := Lib.hid hT; have HD := Lib.hid hD; have HX0 := Lib.hid hx0; clear hW0 hT hD hx0
 go_loopw [14] (fun i wr => ∃ k : Nat, k ≤ n ∧ i = .int .i64 k ∧ allB (tkF f q (dx, dy) a b) k = true ∧ Ext W0 wr) (fun i _ => n - (intOf i).toNat)
 case atStart => exact ⟨0, Nat.zero_le _, rfl, rfl, Ext.refl _⟩
 case round =>
  obtain ⟨k, hk, rfl, ht, hx⟩ := hrel
  have HAL := Lib.hid ht; have HX := Lib.hid hx; clear ht hx
  by_cases hlt : k < n
  ·obtain ⟨ba, oa, hA, c0, c1⟩ := (HA.out.ext (HX0.out.trans HX.out)).g (k := k) (by rw [HLA.out]; exact hlt)
   subst hA
   obtain ⟨t0, t1⟩ := blk2 (HT.out.ext HX.out)
   have hpl : w.heap.size < wr.heap.size := cell_lt t0
   go_wp2_with fail
   refine (apply_any f q (gS a k) _).mono ?_
   rintro e w1 ⟨rfl, he1⟩
   have HX1 := Lib.hid (HX.out.trans (((Ext.refl _).alloc _).trans he1)); clear he1 c0 c1 t0 t1 hpl
   have HF : Hid (tkF f q (dx, dy) a b k = ((wrap64 ((applyT f q (gS a k)).1 + dx) == (gS b k).1) && (wrap64 ((applyT f q (gS a k)).2 + dy) == (gS b k).2))) := rfl
   obtain ⟨I, hI⟩ : ∃ I, I = applyT f q (gS a k) := ⟨_, rfl⟩
   rw [← hI] at HF ⊢
   clear hI
   obtain ⟨bb, ob, hB, e0, e1⟩ := (HB.out.ext (HX0.out.trans HX1.out)).g (k := k) (by rw [HLB.out]; exact hlt)
   subst hB
   go_upto_region 5 with fail
   refine wp_at fun W2 hW2 => ?_
   have hx2 : Ext w1 W2 := by rw [hW2]; exact (Ext.refl _).alloc _
   have hI2 : Blk 49 W2 w1.heap.size [.int .i64 I.1, .int .i64 I.2] := by rw [hW2]; exact Blk.new' rfl
   obtain ⟨i0, i1⟩ := blk2 hI2
   obtain ⟨d0, d1⟩ := blk2 (HD.out.ext (HX1.out.trans hx2))
   have g0 := hx2.cell e0
   have g1 := hx2.cell e1
   have HX2 := Lib.hid (HX1.out.trans hx2)
   clear hW2 hx2 hI2 e0 e1
   have z0 := fun z : After W2 => After.cell i0 z
   have z1 := fun z : After W2 => After.cell i1 z
   have z2 := fun z : After W2 => After.cell d0 z
   have z3 := fun z : After W2 => After.cell d1 z
   have z4 := fun z : After W2 => After.cell g0 z
   have z5 := fun z : After W2 => After.cell g1 z
   cases hb1 : (wrap64 (I.1 + dx) != (gS b k).1)
   ·have H1 : Hid ((wrap64 (I.1 + dx) == (gS b k).1) = true) := by show _ = _; simpa using hb1
    cases hb2 : (wrap64 (I.2 + dy) != (gS b k).2)
    ·have H2 : Hid ((wrap64 (I.2 + dy) == (gS b k).2) = true) := by show _ = _; simpa using hb2
     refine region_ext (by kernel_rfl) (by kernel_rfl) ?_
     repeat (first | go_big_quiet_step (fail) | (go_big_quiet_want; go_simp; go_big_quiet_on))
     refine wpQuiet_nil ?_
     rintro w3 ⟨⟨_, he⟩, rfl⟩
     clear z0 z1 z2 z3 z4 z5 hb1 hb2
     go_wp2_with fail
     go_roundw
     case rel => exact ⟨k + 1, by omega, by go_num, allB_succ HAL.out (by rw [HF.out, H1.out, H2.out]; rfl), HX2.out.trans he⟩
     case measure => simp [intOf]; omega
    ·have H2 : Hid ((wrap64 (I.2 + dy) == (gS b k).2) = false) := by show _ = _; simpa using hb2
     refine region_ext (by kernel_rfl) (by kernel_rfl) ?_
     repeat (first | go_big_quiet_step (fail) | (go_big_quiet_want; go_simp; go_big_quiet_on))
     refine wpQuiet_nil ?_
     rintro w3 ⟨⟨_, he⟩, rfl⟩
     clear z0 z1 z2 z3 z4 z5 hb1 hb2
     go_wp2_with fail
     go_ret
     exact ⟨ret_bool (by rw [allB_false (k := k) hlt (by rw [HF.out, H1.out, H2.out]; rfl)]), HX0.out.trans (HX2.out.trans he)⟩
   ·have H1 : Hid ((wrap64 (I.1 + dx) == (gS b k).1) = false) := by show _ = _; simpa using hb1
    refine region_ext (by kernel_rfl) (by kernel_rfl) ?_
    repeat (first | go_big_quiet_step (fail) | (go_big_quiet_want; go_simp; go_big_quiet_on))
    refine wpQuiet_nil ?_
    rintro w3 ⟨⟨_, he⟩, rfl⟩
    clear z0 z1 z2 z3 z4 z5 hb1
    go_wp2_with fail
    go_ret
    exact ⟨ret_bool (by rw [allB_false (k := k) hlt (by rw [HF.out, H1.out]; rfl)]), HX0.out.trans (HX2.out.trans he)⟩
  ·obtain rfl : k = n := by omega
   go_wp2_with fail
   go_ret
   exact ⟨ret_bool HAL.out.symm, HX0.out.trans HX.out⟩
def cgF (i : Nat) : Bool := decide (4 ≤ i)
def cgQ (i : Nat) : Int := ((i % 4 : Nat) : Int)
def cgI (a : List Spot) (i : Nat) : Spot := applyT (cgF i) (cgQ i) (gS a 0)
def cgD (a b : List Spot) (i : Nat) : Spot := (wrap64 ((gS b 0).1 - (cgI a i).1), wrap64 ((gS b 0).2 - (cgI a i).2))
def cgB (a b : List Spot) (i : Nat) : Bool := allB (tkF (cgF i) (cgQ i) (cgD a b i) a b) a.length
/- the first of the eight turns that takes a to b -/
def cgN (a b : List Spot) : Nat := ((List.range 8).findIdx? (cgB a b)).getD 8
theorem cgN_at {a b : List Spot} {i : Nat} (hi : i < 8) (h0 : ∀ j, j < i → cgB a b j = false) (h : cgB a b i = true) : cgN a b = i := by
 unfold cgN
 have : (List.range 8).findIdx? (cgB a b) = some i := by
  rw [List.findIdx?_eq_some_iff_getElem]
  refine ⟨by simpa using hi, by simpa using h, fun j hj => ?_⟩
  simpa using h0 j hj
 rw [this]; rfl
theorem cgN_none {a b : List Spot} (h0 : ∀ j, j < 8 → cgB a b j = false) : cgN a b = 8 := by
 unfold cgN
 have : (List.range 8).findIdx? (cgB a b) = none := by
  rw [List.findIdx?_eq_none_iff]
  intro x hx
  exact h0 x (List.mem_range.1 hx)
 rw [this]; rfl
def RetC (w : World) (a b : List Spot) (e : Ending) (w' : World) : Prop :=
 (e = .returned (if a.length = b.length ∧ a.length ≠ 0 ∧ cgN a b < 8 then .tuple #[TV (cgF (cgN a b)) (cgQ (cgN a b)), SV (cgD a b (cgN a b)), .bool true] else .tuple #[TV false 0, SV (0, 0), .bool false])) ∧ Ext w w'
theorem retC_no {w w' : World} {a b : List Spot} (h : ¬ (a.length = b.length ∧ a.length ≠ 0 ∧ cgN a b < 8)) (he : Ext w w') : RetC w a b (.returned (.tuple #[TV false 0, SV (0, 0), .bool false])) w' := ⟨by rw [if_neg h], he⟩
theorem bool_cells {w : World} {g : Nat} (h : Blk 4 w g [.bool false, .bool true]) {p : Nat} (hp : p < 2) : w.cell? ⟨g, p, none⟩ = some (.bool (decide (p = 1))) := by
 obtain ⟨h0, h1⟩ := blk2 h
 obtain rfl | rfl : p = 0 ∨ p = 1 := by omega
 ·exact h0
 ·exact h1
set_option maxRecDepth 100000 in
set_option maxHeartbeats 3200000 in
theorem congruent_any (A B : Option Addr) (n m ca cb : Nat) (a b : List Spot) (w : World) (ha : SpotsAt w A a) (hb : SpotsAt w B b) (hla : a.length = n) (hlb : b.length = m) (hn : n ≤ 1000) :
  Calls Tryz.prog 16 #[.slice A n ca, .slice B m cb] w (RetC w a b) := by
 have HA := Lib.hid ha; have HB := Lib.hid hb; have HLA := Lib.hid hla; have HLB := Lib.hid hlb; clear ha hb hla hlb
 by_cases hnm : n = m
 rotate_left
 ·have HN : Hid (¬ (a.length = b.length ∧ a.length ≠ 0 ∧ cgN a b < 8)) := by show ¬ _; rw [HLA.out, HLB.out]; exact fun h => hnm h.1
  have hnb : ((n : Int) != m) = true := by simp; omega
  go_enter Tryz.func16, Tryz.ntmps16
  go_wp2_with fail
  refine bodyPost_ret (v := .tuple #[TV false 0, SV (0, 0), .bool false]) (by simp [results, Tryz.results16, go_sem]) rfl (retC_no HN.out ?_)
  exact ((Ext.refl _).alloc _).alloc _
 subst hnm
 by_cases hn0 : n = 0
 ·have HN : Hid (¬ (a.length = b.length ∧ a.length ≠ 0 ∧ cgN a b < 8)) := by show ¬ _; rw [HLA.out]; exact fun h => h.2.1 hn0
  have hnb : ((n : Int) == 0) = true := by simp; omega
  have hnb' : ((n : Int) != n) = false := by simp
  go_enter Tryz.func16, Tryz.ntmps16
  go_wp2_with fail
  refine bodyPost_ret (v := .tuple #[TV false 0, SV (0, 0), .bool false]) (by simp [results, Tryz.results16, go_sem]) rfl (retC_no HN.out ?_)
  exact ((Ext.refl _).alloc _).alloc _
 have hnb : ((n : Int) == 0) = false := by simp; omega
 have hnb' : ((n : Int) != n) = false := by simp
 go_enter Tryz.func16, Tryz.ntmps16
 go_wp2_with fail
 clear hnb hnb'
 refine wp_at fun W0 hW0 => ?_
 have hR : Blk 31 W0 w.heap.size [.bool false, .int .i64 0] := by rw [hW0]; exact ((Blk.new' rfl).ext ((Ext.refl _).alloc _)).ext ((Ext.refl _).alloc _)
 have hR2 : Blk 49 W0 (w.heap.size + 1) [.int .i64 0, .int .i64 0] := by rw [hW0]; exact (Blk.new' (by simp)).ext ((Ext.refl _).alloc _)
 have hL : Blk 4 W0 (w.heap.size + 1 + 1) [.bool false, .bool true] := by rw [hW0]; exact Blk.new' (by simp)
 have hx0 : Ext w W0 := by rw [hW0]; exact (((Ext.refl _).alloc _).alloc _).alloc _
 have HR := Lib.hid hR; have HR2 := Lib.hid hR2; have HLb := Lib.hid hL; have HX0 := Lib.hid hx0; clear hW0 hR hR2 hL hx0
 go_loopw [27] (fun i wr => ∃ p : Nat, p ≤ 2 ∧ i = .int .i64 p ∧ (∀ j, j < 4 * p → cgB a b j = false) ∧ Ext W0 wr) (fun i _ => 2 - (intOf i).toNat)
 case atStart => exact ⟨0, by omega, rfl, fun j hj => absurd hj (by omega), Ext.refl _⟩
 case round =>
  obtain ⟨p, hp, rfl, hall, hx⟩ := hrel
  have HALL := Lib.hid hall; have HX := Lib.hid hx; clear hall hx
  by_cases hlt : p < 2
  ·have b0 := bool_cells (HLb.out.ext HX.out) hlt
   obtain ⟨f0, hf0⟩ : ∃ f0, f0 = decide (p = 1) := ⟨_, rfl⟩
   rw [← hf0] at b0
   have HF0 := Lib.hid hf0; clear hf0
   have hlt' : (p : Int) < 2 := by omega
   go_wp2_with fail
   clear b0
   go_loopw [31] (fun i wq => ∃ r : Nat, r ≤ 4 ∧ i = .int .i64 r ∧ (∀ j, j < 4 * p + r → cgB a b j = false) ∧ Ext W0 wq) (fun i _ => 4 - (intOf i).toNat)
   case atStart => exact ⟨0, by omega, rfl, HALL.out, HX.out⟩
   case round =>
    clear HX
    obtain ⟨wq, rfl⟩ : ∃ wq : World, wq = wr := ⟨_, rfl⟩
    obtain ⟨r, hr, rfl, hall, hx⟩ := hrel
    have HAL := Lib.hid hall; have HX := Lib.hid hx; clear hall hx HALL
    by_cases hr4 : r < 4
    ·have hr4' : (r : Int) < 4 := by omega
     have HIF : Hid (f0 = cgF (4 * p + r)) := by
      show f0 = _
      rw [HF0.out]; unfold cgF
      by_cases h1 : p = 1
      ·rw [decide_eq_true h1, decide_eq_true (by omega)]
      ·rw [decide_eq_false h1, decide_eq_false (by omega)]
     have HIQ : Hid ((r : Int) = cgQ (4 * p + r)) := by show (r : Int) = _; unfold cgQ; omega
     go_upto_region 10 with fail
     refine wp_at fun W1 hW1 => ?_
     have hx1 : Ext wq W1 := by rw [hW1]; exact (Ext.refl _).alloc _
     have hTb : Blk 31 W1 wq.heap.size [.bool f0, .int .i64 (r : Int)] := by rw [hW1]; exact Blk.new' rfl
     have HX1 := Lib.hid (HX.out.trans hx1); have HTB := Lib.hid hTb; clear hW1 hx1 hTb
     obtain ⟨tb, htb⟩ : ∃ tb, tb = wq.heap.size := ⟨_, rfl⟩
     rw [← htb] at HTB ⊢
     have htl : W0.heap.size ≤ tb := by rw [htb]; exact HX.out.size
     clear htb
     obtain ⟨ba, oa, hA, c0, c1⟩ := (HA.out.ext (HX0.out.trans HX1.out)).g (k := 0) (by rw [HLA.out]; omega)
     subst hA
     simp only [Nat.zero_mul, Nat.add_zero] at c0 c1
     obtain ⟨I, hI⟩ : ∃ I, I = applyT f0 (r : Int) (gS a 0) := ⟨_, rfl⟩
     have HI := Lib.hid hI; clear hI
     have hnp : 0 < n := by omega
     go_cut [11] from 37 to 41 (fun pt wc => ∃ fb, pt = .pointer (some ⟨fb, 0, none⟩) ∧ Blk 49 wc fb [.int .i64 I.1, .int .i64 I.2] ∧ Ext W1 wc)
     case first =>
      obtain ⟨t0, t1⟩ := blk2 HTB.out
      have keep : ∀ W2 : World, Ext W1 W2 → (Ext W1 W2 ∧ W2.cell? ⟨tb, 0, none⟩ = some (.bool f0) ∧ W2.cell? ⟨tb, 1, none⟩ = some (.int .i64 (r : Int)) ∧ W2.cell? ⟨ba, oa, none⟩ = some (.int .i64 (gS a 0).1) ∧ W2.cell? ⟨ba, oa + 1, none⟩ = some (.int .i64 (gS a 0).2)) := fun W2 hx => ⟨hx, hx.cell t0, hx.cell t1, hx.cell c0, hx.cell c1⟩
      have KEEP := Lib.hid keep; clear keep t0 t1 c0 c1
      have HAP : Hid (∀ W : World, Calls Tryz.prog 25 #[TV f0 (r : Int), SV (gS a 0)] W fun e w' => e = .returned (SV I) ∧ Ext W w') := fun W => by rw [HI.out]; exact apply_any f0 (r : Int) (gS a 0) W
      go_region_held3 (fun W => Ext W1 W ∧ W.cell? ⟨tb, 0, none⟩ = some (.bool f0) ∧ W.cell? ⟨tb, 1, none⟩ = some (.int .i64 (r : Int)) ∧ W.cell? ⟨ba, oa, none⟩ = some (.int .i64 (gS a 0).1) ∧ W.cell? ⟨ba, oa + 1, none⟩ = some (.int .i64 (gS a 0).2))
       (first | (with_reducible exact KEEP.out _ (Ext.setCell (Ext.setCell hx2 (p := ⟨W1.heap.size, 0, none⟩) (Nat.le_refl _) _) (p := ⟨W1.heap.size, 1, none⟩) (Nat.le_refl _) _)) | (with_reducible assumption) | (with_reducible exact KEEP.out _ (Ext.drew (Ext.refl _))) | (with_reducible exact KEEP.out _ (Ext.drew (Ext.alloc (Ext.refl _) _))) | (with_reducible exact KEEP.out _ hx2) | (with_reducible exact KEEP.out _ (Ext.alloc hx2 _)) | fail)
       (first
        |(go_at_call 25; (with_reducible refine (HAP.out W1.drew).mono ?_); rintro e w2 ⟨rfl, he2⟩; have hx2 : Ext W1 w2 := (Ext.drew (Ext.refl _)).trans he2)
        |(go_at_call 25; (with_reducible refine (HAP.out (W1.alloc (.cells #[.int .i64 0, .int .i64 0] 49)).drew).mono ?_); rintro e w2 ⟨rfl, he2⟩; have hx2 : Ext W1 w2 := (Ext.drew (Ext.alloc (Ext.refl _) _)).trans he2; have hB1 : Blk 49 w2 W1.heap.size [.int .i64 0, .int .i64 0] := Blk.ext (Blk.ext (Blk.new' rfl) (Ext.drew (Ext.refl _))) he2; obtain ⟨s0, s1⟩ := blk2 hB1; have e0 := hB1.frozen 0; have e1 := hB1.frozen 1; have HB1 := Lib.hid hB1; clear hB1)
        |fail)
      all_goals
       go_wp2_with fail
       go_meet
      case rel => exact ⟨w2.heap.size, rfl, Blk.new' rfl, hx2.alloc _⟩
      case rel => exact ⟨W1.heap.size, rfl, (HB1.out.set 0 (.int .i64 I.1)).set 1 (.int .i64 I.2), (hx2.setCell (Nat.le_refl _) _).setCell (Nat.le_refl _) _⟩
     case rest =>
      obtain ⟨fb, hfb, hBf, hxc⟩ := hcut
      subst hfb
      clear c0 c1
      have HBF := Lib.hid hBf; have HXz := Lib.hid (HX1.out.trans hxc); have HTz := Lib.hid (HTB.out.ext hxc); clear hBf hxc
      obtain ⟨wz, rfl⟩ : ∃ wz : World, wz = wc := ⟨_, rfl⟩
      obtain ⟨bb, ob, hB, d0, d1⟩ := (HB.out.ext (HX0.out.trans HXz.out)).g (k := 0) (by rw [HLB.out]; omega)
      subst hB
      simp only [Nat.zero_mul, Nat.add_zero] at d0 d1
      obtain ⟨f1, f2⟩ := blk2 HBF.out
      obtain ⟨D1, hD1⟩ : ∃ D1, IntKind.i64.wrap ((gS b 0).1 - I.1) = D1 := ⟨_, rfl⟩
      obtain ⟨D2, hD2⟩ : ∃ D2, IntKind.i64.wrap ((gS b 0).2 - I.2) = D2 := ⟨_, rfl⟩
      have HDD : Hid ((D1, D2) = cgD a b (4 * p + r)) := by
       show _ = _
       unfold cgD cgI
       rw [← HIF.out, ← HIQ.out, ← HI.out, ← hD1, ← hD2, IntWalk.i64_left, IntWalk.i64_left]
      go_upto_region 11 with fail
      go_cut [12] from 42 to 56 (fun pt wc => ∃ db, pt = .pointer (some ⟨db, 0, none⟩) ∧ Blk 49 wc db [.int .i64 D1, .int .i64 D2] ∧ Ext wz wc ∧ wz.heap.size ≤ db)
      case first =>
       have keep : ∀ W2 : World, Ext wz W2 → (Ext wz W2 ∧ W2.cell? ⟨fb, 0, none⟩ = some (.int .i64 I.1) ∧ W2.cell? ⟨fb, 1, none⟩ = some (.int .i64 I.2) ∧ W2.cell? ⟨bb, ob, none⟩ = some (.int .i64 (gS b 0).1) ∧ W2.cell? ⟨bb, ob + 1, none⟩ = some (.int .i64 (gS b 0).2)) := fun W2 hx => ⟨hx, hx.cell f1, hx.cell f2, hx.cell d0, hx.cell d1⟩
       have KEEP := Lib.hid keep; clear keep f1 f2 d0 d1
       go_region_held3 (fun W => Ext wz W ∧ W.cell? ⟨fb, 0, none⟩ = some (.int .i64 I.1) ∧ W.cell? ⟨fb, 1, none⟩ = some (.int .i64 I.2) ∧ W.cell? ⟨bb, ob, none⟩ = some (.int .i64 (gS b 0).1) ∧ W.cell? ⟨bb, ob + 1, none⟩ = some (.int .i64 (gS b 0).2))
        (first | (with_reducible assumption) | (with_reducible exact KEEP.out _ (Ext.drew (Ext.refl _))) | (with_reducible exact KEEP.out _ (Ext.drew (Ext.alloc (Ext.refl _) _))) | fail)
        (first | fail)
       all_goals
        go_wp2_with fail
        go_meet
       all_goals exact ⟨_, rfl, (Blk.new' rfl).ext ((Ext.refl _).drew), ((Ext.refl _).alloc _).drew, Nat.le_refl _⟩
      case rest =>
       obtain ⟨db, hdb, hBd, hxc, hdl0⟩ := hcut
       have hdl : W0.heap.size ≤ db := Nat.le_trans HXz.out.size hdl0
       subst hdb
       clear f1 f2 d0 d1 hD1 hD2
       have HBD := Lib.hid hBd; have HXy := Lib.hid (HXz.out.trans hxc); have HTy := Lib.hid (HTz.out.ext hxc); clear hBd hxc
       obtain ⟨wy, rfl⟩ : ∃ wy : World, wy = wc := ⟨_, rfl⟩
       obtain ⟨t0, t1⟩ := blk2 HTy.out
       obtain ⟨g0, g1⟩ := blk2 HBD.out
       go_wp2_with fail
       refine (takes_any _ _ n ca cb f0 (r : Int) (D1, D2) a b _ (HA.out.ext (HX0.out.trans HXy.out)) (HB.out.ext (HX0.out.trans HXy.out)) HLA.out HLB.out hn).mono ?_
       rintro e w3 ⟨rfl, he3⟩
       have HTK : Hid (allB (tkF f0 (r : Int) (D1, D2) a b) n = cgB a b (4 * p + r)) := by
        show _ = _
        unfold cgB
        rw [HLA.out, ← HIF.out, ← HIQ.out, ← HDD.out]
       rw [HTK.out]
       have HX3 := Lib.hid (HXy.out.trans he3); have HT3 := Lib.hid (HTy.out.ext he3); have HB3 := Lib.hid (HBD.out.ext he3)
       clear he3 t0 t1 g0 g1
       cases hc : cgB a b (4 * p + r)
       ·have HCF := Lib.hid hc; clear hc
        go_wp2_with fail
        go_roundw
        case rel => exact ⟨r + 1, by omega, by go_num, fun j hj => by
         rcases Nat.lt_succ_iff_lt_or_eq.1 (show j < (4 * p + r) + 1 by omega) with h | h
         ·exact HAL.out j h
         ·subst h; exact HCF.out, HX3.out⟩
        case measure => simp [intOf]; omega
       ·have HCT := Lib.hid hc; clear hc
        have HCN := Lib.hid (cgN_at (by omega) HAL.out HCT.out)
        have HRr := Lib.hid (HR.out.ext HX3.out); have HR2r := Lib.hid (HR2.out.ext HX3.out)
        obtain ⟨r0, r1⟩ := blk2 HRr.out
        obtain ⟨q0, q1⟩ := blk2 HR2r.out
        have e0 := HRr.out.frozen 0
        have e1 := HRr.out.frozen 1
        have e2 := HR2r.out.frozen 0
        have e3 := HR2r.out.frozen 1
        obtain ⟨t0, t1⟩ := blk2 HT3.out
        obtain ⟨g0, g1⟩ := blk2 HB3.out
        have hw2 : w.heap.size + 1 + 1 < W0.heap.size := HLb.out.lt
        have n1 : tb ≠ w.heap.size := by omega
        have n2 : tb ≠ w.heap.size + 1 := by omega
        have n3 : db ≠ w.heap.size := by omega
        have n4 : db ≠ w.heap.size + 1 := by omega
        go_wp2_with fail
        go_region
        all_goals
         go_wp2_with fail
         refine bodyPost_ret (v := .tuple #[TV f0 (r : Int), SV (D1, D2), .bool true]) (by simp [results, Tryz.results16, go_sem, r0, r1, q0, q1]) rfl ?_
         refine ⟨?_, ?_⟩
         ·rw [if_pos ⟨by rw [HLA.out, HLB.out], by rw [HLA.out]; exact hn0, by rw [HCN.out]; omega⟩, HCN.out, ← HIF.out, ← HIQ.out, ← HDD.out]
         ·repeat (first | exact HX0.out.trans HX3.out | refine Ext.drew ?_ | refine Ext.setCell ?_ (by simp) _)
    ·obtain rfl : r = 4 := by omega
     go_wp2_with fail
     go_roundw
     case rel => exact ⟨p + 1, by omega, by go_num, fun j hj => HAL.out j (by omega), HX.out⟩
     case measure => simp [intOf]; omega
  ·obtain rfl : p = 2 := by omega
   have HN : Hid (¬ (a.length = b.length ∧ a.length ≠ 0 ∧ cgN a b < 8)) := by show ¬ _; rw [cgN_none HALL.out]; exact fun h => absurd h.2.2 (by omega)
   have HRr := Lib.hid (HR.out.ext HX.out); have HR2r := Lib.hid (HR2.out.ext HX.out)
   obtain ⟨r0, r1⟩ := blk2 HRr.out
   obtain ⟨q0, q1⟩ := blk2 HR2r.out
   have e0 := HRr.out.frozen 0
   have e1 := HRr.out.frozen 1
   have e2 := HR2r.out.frozen 0
   have e3 := HR2r.out.frozen 1
   go_wp2_with fail
   refine bodyPost_ret (v := .tuple #[TV false 0, SV (0, 0), .bool false]) (by simp [results, Tryz.results16, go_sem, r0, r1, q0, q1]) rfl (retC_no HN.out ?_)
   repeat (first | exact HX0.out.trans HX.out | refine Ext.drew ?_ | refine Ext.setCell ?_ (by simp) _)
end Go.Proofs.YtfegbaokcbjllaaGreat
/- the arguments opened: pieces, turns, spots, numbers -/
namespace Go.Proofs.YtfegbaokcbjllaaGreat
open Go.ChangeShapes Go.WideShapes Go.ChangeAt Go.RowKit Go.Deep Go.Joins
theorem Tryz.own : ownKnob Tryz.prog.godebug = none := by kernel_rfl
theorem Tryz.laidOut : laidOutB Tryz.prog = true := by kernel_rfl
section
variable {H : Type} {enc : TypeId × Value → H} {w : World} {base : Nat} {spare : Nat → Bool} {held : Bool}
theorem plain_of_cell {a : Addr} {v : Value} (h : w.cell? (a.add 0) = some v) : ∃ b off, a = ⟨b, off, none⟩ := by
 obtain ⟨b, off, spot⟩ := a
 have hs : spot = none := by simpa [Addr.add] using World.cell?_spot h
 subst hs
 exact ⟨b, off, rfl⟩
set_option maxRecDepth 100000 in
theorem ints_open' {n : Nat} {cs : List Value} {x : DataW H × List MemPlace} (h : DataW.trod enc Tryz.prog w base spare held n 23 cs = some x) : ∃ A len c l, cs = [.slice A len c] ∧ IntsAt w A l ∧ l.length = len ∧ len ≤ c ∧ c ≤ 9223372036854775807 := by
 rcases open_slice1 Tryz.underlying23 (by kernel_rfl) h with ⟨rfl, _⟩ | ⟨a, len, cap, m, k, V, D, Pl, rfl, hb, hl, hm, hmm, _, hx⟩
 ·exact ⟨none, 0, 0, [], rfl, IntsAt.nil, rfl, Nat.le_refl _, by omega⟩
 ·have hlm : len ≤ m := by rw [hmm]; split <;> omega
  have key : ∀ i, i < len → ∃ s : Int, w.cell? (a.add i) = some (.int .i64 s) := fun i hi => by
   obtain ⟨hc, ht'⟩ := hx i (by omega)
   obtain ⟨s, es, _, _⟩ := DataW.trod_int Tryz.underlying3 ht'
   simp at es
   exact ⟨s, by rw [hc, es]⟩
  obtain ⟨f, hf⟩ := choose_lt key
  refine ⟨some a, len, cap, (List.range len).map f, rfl, fun k' hk => ?_, by simp, hl, by unfold maxLen at hm; omega⟩
  simp at hk
  have c0 := hf k' hk
  obtain ⟨b, off, rfl⟩ := plain_of_cell (hf 0 (by omega))
  rw [addr_add] at c0
  exact ⟨b, off, rfl, by simpa using c0⟩
end
theorem wf_range {n : Int} (h : (Lit.int .i64 n).wf = true) : -9223372036854775808 ≤ n ∧ n ≤ 9223372036854775807 := by
 have := bounds_i64 h
 omega
section
variable {H : Type} {enc : TypeId × Value → H} {w : World} {base : Nat} {spare : Nat → Bool} {held : Bool}
set_option maxRecDepth 100000 in
theorem pair_trodW {e : TypeId} {f0 f1 : Field} {n : Nat} {cs : List Value} {x : DataW H × List MemPlace} (he : Tryz.prog.underlying e = some (.struct #[f0, f1])) (h0 : f0.type = 3) (h1 : f1.type = 3) (o0 : f0.offset = 0) (o1 : f1.offset = 1) (hC : Tryz.prog.cellsOf e = 2) (hI : Tryz.prog.cellsOf 3 = 1)
  (h : DataW.trod enc Tryz.prog w base spare held n e cs = some x) : ∃ s : Spot, cs = [.int .i64 s.1, .int .i64 s.2] ∧ wfS s := by
 obtain ⟨xs, m, _, _, hlen, hl, hg⟩ := DataW.trod_struct he h
 rw [hC] at hlen
 match cs, hlen with
 |[c0, c1], _ =>
  have g0 := hg 0 f0 rfl
  have g1 := hg 1 f1 rfl
  rw [o0, h0, hI] at g0
  rw [o1, h1, hI] at g1
  match xs, hl with
  |[y0, y1], _ =>
   simp at g0 g1
   obtain ⟨a, ea, _, wa⟩ := DataW.trod_int Tryz.underlying3 g0
   obtain ⟨b, eb, _, wb⟩ := DataW.trod_int Tryz.underlying3 g1
   simp at ea eb
   exact ⟨(a, b), by rw [ea, eb], (wf_range wa).1, (wf_range wa).2, (wf_range wb).1, (wf_range wb).2⟩
set_option maxRecDepth 100000 in
theorem pairs_openW {t e : TypeId} {f0 f1 : Field} {n : Nat} {cs : List Value} {x : DataW H × List MemPlace} (ht : Tryz.prog.underlying t = some (.slice e)) (he : Tryz.prog.underlying e = some (.struct #[f0, f1])) (h0 : f0.type = 3) (h1 : f1.type = 3) (o0 : f0.offset = 0) (o1 : f1.offset = 1) (hC : Tryz.prog.cellsOf e = 2) (hI : Tryz.prog.cellsOf 3 = 1)
  (h : DataW.trod enc Tryz.prog w base spare held n t cs = some x) : ∃ A len c l, cs = [.slice A len c] ∧ SpotsAt w A l ∧ l.length = len ∧ len ≤ c ∧ c ≤ 9223372036854775807 ∧ WfL l := by
 rcases open_slice ht h with ⟨rfl, _⟩ | ⟨a, len, cap, m, k, D, Pl, rfl, hb, hl, hm, hmm, _, hx⟩
 ·exact ⟨none, 0, 0, [], rfl, SpotsAt.nil, rfl, Nat.le_refl _, by omega, fun _ hk => absurd hk (Nat.not_lt_zero _)⟩
 ·rw [hC] at hx
  have hlm : len ≤ m := by rw [hmm]; split <;> omega
  have key : ∀ i, i < len → ∃ s : Spot, w.cell? (a.add (i * 2)) = some (.int .i64 s.1) ∧ w.cell? (a.add (i * 2 + 1)) = some (.int .i64 s.2) ∧ wfS s := fun i hi => by
   obtain ⟨cs', hc, ht'⟩ := hx i (by omega)
   obtain ⟨s, rfl, hw⟩ := pair_trodW he h0 h1 o0 o1 hC hI ht'
   obtain ⟨_, _, hat⟩ := World.cells?_some hc
   have a0 := hat 0 (by omega)
   have a1 := hat 1 (by omega)
   rw [add_add] at a0 a1
   exact ⟨s, by simpa using a0, by simpa using a1, hw⟩
  obtain ⟨f, hf⟩ := choose_lt key
  refine ⟨some a, len, cap, (List.range len).map f, rfl, fun k' hk => ?_, by simp, hl, by unfold maxLen at hm; omega, fun k' hk => by simp at hk; rw [gS_eq (by simpa using hk)]; simpa using (hf k' hk).2.2⟩
  simp at hk
  obtain ⟨c0, c1, _⟩ := hf k' hk
  obtain ⟨b, off, rfl⟩ := plain_of_cell (by simpa using (hf 0 (by omega)).1)
  rw [addr_add] at c0 c1
  refine ⟨b, off, rfl, ?_, ?_⟩
  ·simpa using c0
  ·rw [Nat.add_assoc]; simpa using c1
set_option maxRecDepth 100000 in
theorem spots_openW {n : Nat} {cs : List Value} {x : DataW H × List MemPlace} (h : DataW.trod enc Tryz.prog w base spare held n 38 cs = some x) : ∃ A len c l, cs = [.slice A len c] ∧ SpotsAt w A l ∧ l.length = len ∧ len ≤ c ∧ c ≤ 9223372036854775807 ∧ WfL l :=
 pairs_openW Tryz.underlying38 Tryz.underlying49 rfl rfl rfl rfl (by kernel_rfl) (by kernel_rfl) h
end
/- the numbers of a case are numbers of the machine -/
structure WfJ (x : JX) : Prop where
 l : WfL x.ln
 s : wfS x.st
 e : wfS x.en
 m : wfS x.mv
 a : wfS x.ap
section
variable {H : Type} {enc : TypeId × Value → H} {w : World} {base : Nat} {spare : Nat → Bool} {held : Bool}
theorem spot_trodW {n : Nat} {cs : List Value} {x : DataW H × List MemPlace} (h : DataW.trod enc Tryz.prog w base spare held n 49 cs = some x) : ∃ s : Spot, cs = [.int .i64 s.1, .int .i64 s.2] ∧ wfS s :=
 pair_trodW Tryz.underlying49 rfl rfl rfl rfl (by kernel_rfl) (by kernel_rfl) h
set_option maxRecDepth 100000 in
theorem turn_trod {n : Nat} {cs : List Value} {x : DataW H × List MemPlace} (h : DataW.trod enc Tryz.prog w base spare held n 31 cs = some x) : ∃ (f : Bool) (q : Int), cs = [.bool f, .int .i64 q] := by
 obtain ⟨xs, m, _, _, hlen, hl, hg⟩ := DataW.trod_struct Tryz.underlying31 h
 rw [show Tryz.prog.cellsOf 31 = 2 from by kernel_rfl] at hlen
 match cs, hlen with
 |[c0, c1], _ =>
  have g0 : DataW.trod enc Tryz.prog w base spare held m 4 (([c0, c1].drop 0).take (Tryz.prog.cellsOf 4)) = xs[0]? := hg 0 _ rfl
  have g1 : DataW.trod enc Tryz.prog w base spare held m 3 (([c0, c1].drop 1).take (Tryz.prog.cellsOf 3)) = xs[1]? := hg 1 _ rfl
  rw [show Tryz.prog.cellsOf 4 = 1 from by kernel_rfl] at g0
  rw [show Tryz.prog.cellsOf 3 = 1 from by kernel_rfl] at g1
  match xs, hl with
  |[y0, y1], _ =>
   simp at g0 g1
   obtain ⟨a, ea, _⟩ := DataW.trod_bool Tryz.underlying4 g0
   obtain ⟨b, eb, _, _⟩ := DataW.trod_int Tryz.underlying3 g1
   simp at ea eb
   exact ⟨a, b, by rw [ea, eb]⟩
set_option maxRecDepth 100000 in
theorem joined_open {r : Reach} {b0 : Nat} {v : Value} {d : DataW H} {p : List MemPlace} (hv : Value.okWide Tryz.prog w r b0 51 v) (h : DataW.Trod enc Tryz.prog w base spare held 51 v d p) :
  ∃ a x, v = JA.val a x ∧ JAt w a x ∧ WfJ x := by
 obtain ⟨cs, rfl, hsz⟩ := okWide_struct Tryz.underlying51 hv
 obtain ⟨l⟩ := cs
 have hC : Tryz.prog.cellsOf 51 = 13 := by kernel_rfl
 match l, hsz.trans hC with
 |[c0, c1, c2, c3, c4, c5, c6, c7, c8, c9, c10, c11, c12], _ =>
  obtain ⟨fuel, hf⟩ := h
  obtain ⟨xs, n, _, hx, _, hlen, hg⟩ := DataW.trod_struct Tryz.underlying51 hf
  have g0 : DataW.trod enc Tryz.prog w base spare held n 38 (([c0, c1, c2, c3, c4, c5, c6, c7, c8, c9, c10, c11, c12].drop 0).take (Tryz.prog.cellsOf 38)) = xs[0]? := hg 0 _ rfl
  have g1 : DataW.trod enc Tryz.prog w base spare held n 49 (([c0, c1, c2, c3, c4, c5, c6, c7, c8, c9, c10, c11, c12].drop 1).take (Tryz.prog.cellsOf 49)) = xs[1]? := hg 1 _ rfl
  have g2 : DataW.trod enc Tryz.prog w base spare held n 49 (([c0, c1, c2, c3, c4, c5, c6, c7, c8, c9, c10, c11, c12].drop 3).take (Tryz.prog.cellsOf 49)) = xs[2]? := hg 2 _ rfl
  have g3 : DataW.trod enc Tryz.prog w base spare held n 31 (([c0, c1, c2, c3, c4, c5, c6, c7, c8, c9, c10, c11, c12].drop 5).take (Tryz.prog.cellsOf 31)) = xs[3]? := hg 3 _ rfl
  have g4 : DataW.trod enc Tryz.prog w base spare held n 49 (([c0, c1, c2, c3, c4, c5, c6, c7, c8, c9, c10, c11, c12].drop 7).take (Tryz.prog.cellsOf 49)) = xs[4]? := hg 4 _ rfl
  have g5 : DataW.trod enc Tryz.prog w base spare held n 49 (([c0, c1, c2, c3, c4, c5, c6, c7, c8, c9, c10, c11, c12].drop 9).take (Tryz.prog.cellsOf 49)) = xs[5]? := hg 5 _ rfl
  have g6 : DataW.trod enc Tryz.prog w base spare held n 23 (([c0, c1, c2, c3, c4, c5, c6, c7, c8, c9, c10, c11, c12].drop 11).take (Tryz.prog.cellsOf 23)) = xs[6]? := hg 6 _ rfl
  have g7 : DataW.trod enc Tryz.prog w base spare held n 23 (([c0, c1, c2, c3, c4, c5, c6, c7, c8, c9, c10, c11, c12].drop 12).take (Tryz.prog.cellsOf 23)) = xs[7]? := hg 7 _ rfl
  rw [show Tryz.prog.cellsOf 38 = 1 from by kernel_rfl] at g0
  rw [show Tryz.prog.cellsOf 49 = 2 from by kernel_rfl] at g1 g2 g4 g5
  rw [show Tryz.prog.cellsOf 31 = 2 from by kernel_rfl] at g3
  rw [show Tryz.prog.cellsOf 23 = 1 from by kernel_rfl] at g6 g7
  match xs, hlen with
  |[y0, y1, y2, y3, y4, y5, y6, y7], _ =>
   simp at g0 g1 g2 g3 g4 g5 g6 g7
   obtain ⟨AL, nL, cL, ln, e0, hL, lL, hl1, hl2, hwL⟩ := spots_openW g0
   obtain ⟨st, e1, hw1⟩ := spot_trodW g1
   obtain ⟨en, e2, hw2⟩ := spot_trodW g2
   obtain ⟨f, q, e3⟩ := turn_trod g3
   obtain ⟨mv, e4, hw4⟩ := spot_trodW g4
   obtain ⟨ap, e5, hw5⟩ := spot_trodW g5
   obtain ⟨AM, nM, cM, ms, e6, hM, lM, hm1, hm2⟩ := ints_open' g6
   obtain ⟨AN, nN, cN, ns, e7, hN, lN, hn1, hn2⟩ := ints_open' g7
   simp at e0 e1 e2 e3 e4 e5 e6 e7
   obtain ⟨e1, e1'⟩ := e1
   obtain ⟨e2, e2'⟩ := e2
   obtain ⟨e3, e3'⟩ := e3
   obtain ⟨e4, e4'⟩ := e4
   obtain ⟨e5, e5'⟩ := e5
   subst e0 e1 e1' e2 e2' e3 e3' e4 e4' e5 e5' e6 e7
   exact ⟨⟨AL, nL, cL, AM, nM, cM, AN, nN, cN⟩, ⟨ln, st, en, f, q, mv, ap, ms, ns⟩, rfl, ⟨hL, lL, hl1, hl2, hM, lM, by simp only; omega, hN, lN, by simp only; omega⟩, ⟨hwL, hw1, hw2, hw4, hw5⟩⟩
end
end Go.Proofs.YtfegbaokcbjllaaGreat
/- seam.Unfit -/
namespace Go.Proofs.YtfegbaokcbjllaaGreat
open Go.RowKit
def unfF (s : Sty) (z : Int) (k : Nat) : Bool := decide ((gSm s.ss k).ease < gapN (lensV s z k).1 (lensV s z k).2.1)
def unfTo (s : Sty) (z : Int) (k : Nat) : List Int := ((List.range k).filter (unfF s z)).map fun (i : Nat) => (i : Int)
def unfL (s : Sty) (z : Int) : List Int := unfTo s z s.ss.length
def unfE (s : Sty) (z : Int) : Int := if sizeB s z = false then 3 else firstE (fun k => (lensV s z (k : Int)).2.2) s.ss.length
def RetUn (w : World) (s : Sty) (z : Int) (e : Ending) (w' : World) : Prop :=
 ∃ v, e = .returned (.tuple #[v, .int .i64 (unfE s z)]) ∧ (unfE s z = 0 → OwnI w' w.heap.size v (unfL s z)) ∧ (unfE s z ≠ 0 → v = .slice none 0 0) ∧ Ext w w'
theorem retUn_bad {w w' : World} {s : Sty} {z x : Int} (h : unfE s z = x) (hx : x ≠ 0) (he : Ext w w') : RetUn w s z (.returned (.tuple #[.slice none 0 0, .int .i64 x])) w' :=
 ⟨_, by rw [h], fun h0 => absurd (h.symm.trans h0) hx, fun _ => rfl, he⟩
theorem unfTo_len (s : Sty) (z : Int) (k : Nat) : (unfTo s z k).length ≤ k := by
 unfold unfTo
 rw [List.length_map]
 exact Nat.le_trans (List.length_filter_le _ _) (by simp)
theorem unfTo_yes {s : Sty} {z : Int} {k : Nat} (h : unfF s z k = true) : unfTo s z (k + 1) = unfTo s z k ++ [(k : Int)] := by
 unfold unfTo; rw [List.range_succ, List.filter_append, List.map_append]; simp [h]
theorem unfTo_no {s : Sty} {z : Int} {k : Nat} (h : unfF s z k = false) : unfTo s z (k + 1) = unfTo s z k := by
 unfold unfTo; rw [List.range_succ, List.filter_append, List.map_append]; simp [h]
set_option maxRecDepth 100000 in
set_option maxHeartbeats 3200000 in
theorem unfit_any (a : StyA) (s : Sty) (z : Int) (w : World) (hs : StyAt w a s) (hn : a.nK ≤ 1000) :
  Calls Tryz.prog 18 #[a.val, .int .i64 z] w (RetUn w s z) := by
 have HS := Lib.hid hs; clear hs
 have HC := Lib.hid (fun W (h : Ext w W) => isSize_any a s z W (HS.out.ext h))
 have HD := Lib.hid (fun k W (h : Ext w W) => lengths_any a s z k W (HS.out.ext h))
 obtain ⟨nm, AS, nS, cS, AM, nM, cM, AP, nP, cP, AU, nU, cU, AK, nK, cK, AO, nO, cO⟩ := a
 have HLK : Hid (s.ss.length = nK) := HS.out.lK
 simp only at hn
 simp only [StyA.val] at HC HD ⊢
 obtain ⟨i0, hi0, hz0, hz1, hz2⟩ := info_parts int_info
 go_enter Tryz.func18, Tryz.ntmps18
 go_wp2_with fail
 refine (HC.out _ ((Ext.refl _).alloc _)).mono ?_
 rintro e w1 ⟨rfl, he1⟩
 have HB1 : Hid (Blk 29 w1 w.heap.size [.string nm, .slice AS nS cS, .slice AM nM cM, .slice AP nP cP, .slice AU nU cU, .slice AK nK cK, .slice AO nO cO]) := (Blk.new' rfl).ext he1
 have HX1 := Lib.hid (((Ext.refl w).alloc _).trans he1)
 clear he1
 cases hsz : sizeB s z
 ·have HR : Hid (unfE s z = 3) := by show _ = _; unfold unfE; rw [if_pos hsz]
  clear hsz
  go_wp2_with fail
  go_ret2
  exact retUn_bad HR.out (by decide) HX1.out
 have HUE : Hid (unfE s z = firstE (fun k => (lensV s z (k : Int)).2.2) nK) := by show _ = _; unfold unfE; rw [if_neg (by rw [hsz]; decide), HLK.out]
 clear hsz
 obtain ⟨c0, c1, c2, c3, c4, c5, c6⟩ := blk7 HB1.out
 go_wp2_with fail
 clear c0 c1 c2 c3 c4 c5 c6
 go_loopw [6, 19] (fun v i wr => ∃ k : Nat, k ≤ nK ∧ i = .int .i64 k ∧ firstE (fun k => (lensV s z (k : Int)).2.2) k = 0 ∧ OwnI wr w1.heap.size v (unfTo s z k) ∧ Ext w1 wr) (fun _ i _ => nK - (intOf i).toNat)
 case atStart => exact ⟨0, Nat.zero_le _, rfl, rfl, OwnI.nil _ _, Ext.refl _⟩
 case round =>
  obtain ⟨k, hk, rfl, ht, ho, hx⟩ := hrel
  have HT := Lib.hid ht; clear ht
  have hlk := unfTo_len s z k
  obtain ⟨LK, hLK⟩ : ∃ LK, LK = unfTo s z k := ⟨_, rfl⟩
  rw [← hLK] at ho hlk
  have HLKE := Lib.hid hLK; have HO := Lib.hid ho; have HX := Lib.hid hx; clear hLK ho hx
  have HXw := Lib.hid (HX1.out.trans HX.out)
  by_cases hlt : k < nK
  ·obtain ⟨bk, ok, hAK, hsm⟩ := (HS.out.K.ext HXw.out) k (by rw [HLK.out]; exact hlt)
   simp only at hAK
   subst hAK
   obtain ⟨sm, hsmd⟩ : ∃ sm, sm = gSm s.ss k := ⟨_, rfl⟩
   rw [← hsmd] at hsm
   obtain ⟨pa, ea, pb, eb, rv, es⟩ := sm
   have HES : Hid ((gSm s.ss k).ease = es) := by show _ = _; rw [← hsmd]
   clear hsmd
   obtain ⟨k0, k1, k2, k3, k4, k5⟩ := hsm
   simp only at k0 k1 k2 k3 k4 k5
   obtain ⟨c0, c1, c2, c3, c4, c5, c6⟩ := blk7 (HB1.out.ext HX.out)
   have hpl : w.heap.size < wr.heap.size := (HB1.out.ext HX.out).lt
   have HXL : Hid (Ext wr (wr.alloc (.cells #[.int .i64 pa, .int .i64 ea, .int .i64 pb, .int .i64 eb, .bool rv, .int .i64 es] 71))) := (Ext.refl _).alloc _
   go_wp2_with fail
   refine (HD.out (k : Int) _ (HXw.out.trans HXL.out)).mono ?_
   rintro e w2 ⟨rfl, he2⟩
   have HSB : Hid (Blk 71 w2 wr.heap.size [.int .i64 pa, .int .i64 ea, .int .i64 pb, .int .i64 eb, .bool rv, .int .i64 es]) := (Blk.new' rfl).ext he2
   have HX2 := Lib.hid ((HX.out.trans HXL.out).trans he2)
   have HXr2 := Lib.hid (HXL.out.trans he2)
   clear he2 HXL c0 c1 c2 c3 c4 c5 c6 k0 k1 k2 k3 k4 k5 hpl
   obtain ⟨bd1, bd2, bd3, bd4⟩ := lensV_bd s z k
   obtain ⟨V, hV⟩ : ∃ V, V = lensV s z k := ⟨_, rfl⟩
   have HV := Lib.hid hV
   rw [← hV] at bd1 bd2 bd3 bd4 ⊢
   clear hV
   obtain ⟨LA, LB, E⟩ := V
   simp only at bd1 bd2 bd3 bd4
   simp only [LenV]
   by_cases hz : E = 0
   rotate_left
   ·have HR : Hid (unfE s z = E) := by show _ = _; rw [HUE.out]; rw [firstE_at hlt HT.out (by rw [← HV.out]; exact hz), ← HV.out]
    have hzb : (E != 0) = true := by simp [hz]
    have HZ := Lib.hid hz; clear hz
    go_wp2_with fail
    go_ret2
    exact retUn_bad HR.out HZ.out (HX1.out.trans HX2.out)
   subst hz
   have HT' := Lib.hid (firstE_succ (f := fun k => (lensV s z (k : Int)).2.2) HT.out (by rw [← HV.out]))
   have HUF : Hid (unfF s z k = decide (es < gapN LA LB)) := by show _ = _; unfold unfF; rw [HES.out, ← HV.out]
   obtain ⟨k0, k1, k2, k3, k4, k5⟩ := blk6 HSB.out
   have hbb : w1.heap.size ≤ w2.heap.size := HX2.out.size
   obtain ⟨G, hG⟩ : ∃ G, G = gapN LA LB := ⟨_, rfl⟩
   rw [← hG] at HUF
   have wA : IntKind.i64.wrap (LA - LB) = LA - LB := IntWalk.i64_in _ (by omega)
   have wB : IntKind.i64.wrap (LB - LA) = LB - LA := IntWalk.i64_in _ (by omega)
   have H63 : Hid (LK.length + 1 ≤ maxLen) := by show _ ≤ _; unfold maxLen; omega
   have H64 : Hid ((LK.length + 1) * 8 ≤ 140737488355328) := by show _ ≤ _; omega
   have HC6 : Hid (w1.heap.size ≤ (w2.alloc (.cells #[.int .i64 (k : Int)] 3)).heap.size) := by show _ ≤ _; simp; omega
   by_cases hun : es < G
   ·have HU : Hid (unfF s z k = true) := by show _ = _; rw [HUF.out]; exact decide_eq_true hun
    by_cases hm : LA - LB < LB - LA
    ·have hG' : G = LB - LA := by rw [hG]; unfold gapN; rw [if_pos hm]
     have hun' : es < LB - LA := by omega
     clear hG hG' hun
     go_wp2_with (at_builtin; refine wpList_append_own _ rfl (.tmp 45) (.tmp 47) 23 rfl w1.heap.size 3 i0 (.int .i64 0) 1 8 Tryz.underlying23 hi0 hz0 hz1 hz2 rfl (by decide) _ _ _ rfl (World.ownsRow.alloc (own_ext HO.out HXr2.out) _) ⟨w2.heap.size, 0, none⟩ 1 1 [.int .i64 (k : Int)] rfl rfl (World.news_of_block (cs := #[.int .i64 (k : Int)]) (t := 3) (fr := (0, 0)) (heap_alloc_new w2 _)) (by simp [Value.oneCell']) H63.out H64.out HC6.out ?_)
     intro v' w4 hown' hgrow _
     have hO' : OwnI w4 w1.heap.size v' (unfTo s z (k + 1)) := by
      rw [unfTo_yes HU.out, ← HLKE.out]
      unfold OwnI icells
      rw [List.length_append, List.map_append]
      exact hown'
     have hx' : Ext w1 w4 := (HX2.out.alloc _).grown hgrow (fun g hg => (World.ownsRow.lt HO.out g hg).1)
     have HO' := Lib.hid hO'; clear hO' hown' hgrow
     go_wp2_with fail
     go_roundw
     case rel => exact ⟨k + 1, by omega, by go_num, HT'.out, HO'.out, hx'⟩
     case measure => simp [intOf]; omega
    ·have hG' : G = LA - LB := by rw [hG]; unfold gapN; rw [if_neg hm]
     have hun' : es < LA - LB := by omega
     clear hG hG' hun
     go_wp2_with (at_builtin; refine wpList_append_own _ rfl (.tmp 45) (.tmp 47) 23 rfl w1.heap.size 3 i0 (.int .i64 0) 1 8 Tryz.underlying23 hi0 hz0 hz1 hz2 rfl (by decide) _ _ _ rfl (World.ownsRow.alloc (own_ext HO.out HXr2.out) _) ⟨w2.heap.size, 0, none⟩ 1 1 [.int .i64 (k : Int)] rfl rfl (World.news_of_block (cs := #[.int .i64 (k : Int)]) (t := 3) (fr := (0, 0)) (heap_alloc_new w2 _)) (by simp [Value.oneCell']) H63.out H64.out HC6.out ?_)
     intro v' w4 hown' hgrow _
     have hO' : OwnI w4 w1.heap.size v' (unfTo s z (k + 1)) := by
      rw [unfTo_yes HU.out, ← HLKE.out]
      unfold OwnI icells
      rw [List.length_append, List.map_append]
      exact hown'
     have hx' : Ext w1 w4 := (HX2.out.alloc _).grown hgrow (fun g hg => (World.ownsRow.lt HO.out g hg).1)
     have HO' := Lib.hid hO'; clear hO' hown' hgrow
     go_wp2_with fail
     go_roundw
     case rel => exact ⟨k + 1, by omega, by go_num, HT'.out, HO'.out, hx'⟩
     case measure => simp [intOf]; omega
   ·have HU : Hid (unfF s z k = false) := by show _ = _; rw [HUF.out]; exact decide_eq_false hun
    have HO2 := Lib.hid (own_ext HO.out HXr2.out)
    by_cases hm : LA - LB < LB - LA
    ·have hG' : G = LB - LA := by rw [hG]; unfold gapN; rw [if_pos hm]
     have hun' : ¬ es < LB - LA := by omega
     clear hG hG' hun
     go_wp2_with fail
     go_roundw
     case rel => exact ⟨k + 1, by omega, by go_num, HT'.out, by rw [unfTo_no HU.out, ← HLKE.out]; exact HO2.out, HX2.out⟩
     case measure => simp [intOf]; omega
    ·have hG' : G = LA - LB := by rw [hG]; unfold gapN; rw [if_neg hm]
     have hun' : ¬ es < LA - LB := by omega
     clear hG hG' hun
     go_wp2_with fail
     go_roundw
     case rel => exact ⟨k + 1, by omega, by go_num, HT'.out, by rw [unfTo_no HU.out, ← HLKE.out]; exact HO2.out, HX2.out⟩
     case measure => simp [intOf]; omega
  ·obtain rfl : k = nK := by omega
   go_wp2_with fail
   go_ret2
   have hE0 : unfE s z = 0 := by rw [HUE.out]; exact HT.out
   refine ⟨_, by rw [hE0]; rfl, fun _ => ?_, fun h => absurd hE0 h, HXw.out⟩
   have h := HO.out
   unfold unfL
   rw [HLK.out, ← HLKE.out]
   exact own_base_le h HX1.out.size
/- the image of a spot under a turn and a move -/
def imgS (f : Bool) (q : Int) (d s : Spot) : Spot := (wrap64 ((applyT f q s).1 + d.1), wrap64 ((applyT f q s).2 + d.2))
theorem tkF_iff (f : Bool) (q : Int) (d : Spot) (a b : List Spot) (i : Nat) : tkF f q d a b i = true ↔ imgS f q d (gS a i) = gS b i := by
 unfold tkF imgS
 rw [Bool.and_eq_true, beq_iff_eq, beq_iff_eq]
 exact ⟨fun h => Prod.ext h.1 h.2, fun h => by rw [← h]; exact ⟨rfl, rfl⟩⟩
def cgI8 (f : Bool) (q : Int) : Nat := (if f = true then 4 else 0) + (q % 4).toNat
theorem cgI8_lt (f : Bool) (q : Int) : cgI8 f q < 8 := by unfold cgI8; split <;> omega
theorem cgI8_f (f : Bool) (q : Int) : cgF (cgI8 f q) = f := by
 unfold cgF cgI8
 cases f
 ·simp; omega
 ·simp
theorem cgI8_q (f : Bool) (q : Int) : cgQ (cgI8 f q) = q % 4 := by
 unfold cgQ cgI8
 split <;> omega
theorem apply_mod (f : Bool) (q : Int) (s : Spot) : applyT f (q % 4) s = applyT f q s := by unfold applyT; rw [Int.emod_emod]
/- a list and its image -/
theorem cgB_img {f : Bool} {q : Int} {d : Spot} {a b : List Spot} (hn : a.length ≠ 0) (h : ∀ i, i < a.length → gS b i = imgS f q d (gS a i)) : cgB a b (cgI8 f q) = true := by
 unfold cgB
 rw [allB_iff]
 intro i hi
 rw [tkF_iff, h i hi]
 unfold cgD cgI
 rw [h 0 (by omega), cgI8_f, cgI8_q]
 unfold imgS
 simp only [apply_mod]
 generalize applyT f q (gS a i) = p
 generalize applyT f q (gS a 0) = p0
 simp only [wrap64]
 refine Prod.ext ?_ ?_ <;> simp only <;> omega
theorem cgN_lt {a b : List Spot} {i : Nat} (hi : i < 8) (h : cgB a b i = true) : cgN a b < 8 := by
 rcases Classical.em (∀ j, j < 8 → cgB a b j = false) with h0 | h0
 ·rw [h0 i hi] at h; cases h
 ·unfold cgN
  have : ((List.range 8).findIdx? (cgB a b)).isSome = true := by
   rw [List.findIdx?_isSome, List.any_eq_true]
   exact ⟨i, List.mem_range.2 hi, h⟩
  obtain ⟨j, hj⟩ := Option.isSome_iff_exists.1 this
  rw [hj]
  rw [List.findIdx?_eq_some_iff_getElem] at hj
  simpa using hj.1
theorem near_of {x : JX} (h : NearOk x) {s : Spot} (hs : s ∈ x.all) : inR 5000 s := by
 obtain ⟨k, hk, rfl⟩ := List.mem_iff_getElem.1 hs
 rw [← gS_eq hk]; exact h.b k hk
theorem inR_le {a b : Int} {s : Spot} (h : inR a s) (hab : a ≤ b) : inR b s := by
 obtain ⟨h1, h2, h3, h4⟩ := h; exact ⟨by omega, by omega, by omega, by omega⟩
theorem gS_mem {l : List Spot} {k : Nat} (hk : k < l.length) : gS l k ∈ l := by rw [gS_eq hk]; exact List.getElem_mem hk
theorem js_mem {x : JX} (h : NearOk x) {i k : Nat} (hi : i < x.es.length) (hk : k < (gE x.es i).2.length) : gS (gE x.es i).2 k ∈ x.ln ∨ gS (gE x.es i).2 k = x.ap := by
 have h2 := h.l2
 have m0 : gS x.ln 0 ∈ x.ln := gS_mem (by omega)
 have m1 : gS x.ln (x.ln.length - 1) ∈ x.ln := gS_mem (by omega)
 match i, hi with
 |0, _ => exact .inl (gS_mem hk)
 |1, _ =>
  match k, hk with
  |0, _ => exact .inl m1
  |1, _ => exact .inr rfl
  |2, _ => exact .inl m0
theorem js_es (x : JX) : x.p.es.length = 2 := rfl
theorem js_ok {x : JX} (hn : NearOk x) (hw : WfJ x) (hp : plE x.p 0 = 0) : ImOk x.p x.q x.mv := by
 refine ⟨inR_le (near_of hn (by simp [JX.all])) (by omega), fun i hi k hk => ?_, fun i hi k hk => ?_, fun k hk => ?_, hp, by rw [js_es]; omega⟩
 ·rcases js_mem hn hi hk with h | h
  ·exact inR_le (near_of hn (by unfold JX.all; exact List.mem_append_left _ h)) (by omega)
  ·rw [show gS (gE x.p.es i).2 k = x.ap from h]; exact inR_le (near_of hn (by simp [JX.all])) (by omega)
 ·rcases js_mem hn hi hk with h | h
  ·exact inR_wf (B := 5000) (by omega) (near_of hn (by unfold JX.all; exact List.mem_append_left _ h))
  ·rw [show gS (gE x.p.es i).2 k = x.ap from h]; exact hw.a
 ·match k, hk with
  |0, _ => exact hw.s
  |1, _ => exact hw.e
theorem js_pl {x : JX} (h : styE x.s = 0) : plE x.p 0 = 0 := by
 unfold styE at h
 split at h
 ·rename_i hc; exact absurd h hc
 split at h
 ·rename_i hc; exact absurd h hc
 rename_i hc
 have h0 := (firstE_zero _ _).1 (Classical.not_not.1 hc) 0 (show 0 < 2 by omega)
 have e : gPx x.s.ps 0 = ⟨oneN, 1, x.p⟩ := rfl
 unfold pieceE at h0
 rw [e] at h0
 simp only at h0
 split at h0
 ·cases h0
 split at h0
 ·cases h0
 split at h0
 ·cases h0
 split at h0
 ·rename_i hc; exact absurd h0 hc
 split at h0
 ·rename_i hc; exact absurd h0 hc
 rename_i hc
 exact Classical.not_not.1 hc
theorem js_ms {x : JX} (h : styE x.s = 0) {k : Nat} (hk : k < x.ms.length) : -100 ≤ gI x.ms k ∧ gI x.ms k ≤ 100 := by
 unfold styE at h
 split at h
 ·rename_i hc; exact absurd h hc
 rename_i hc
 have h0 := Classical.not_not.1 hc
 unfold wholeE at h0
 split at h0
 ·cases h0
 split at h0
 ·cases h0
 split at h0
 ·cases h0
 split at h0
 ·cases h0
 split at h0
 ·cases h0
 split at h0
 ·cases h0
 split at h0
 ·cases h0
 rename_i hc
 have h1 : allB (fun i => decide (-100 ≤ gI x.ms i ∧ gI x.ms i ≤ 100)) x.ms.length = true := by
  rcases Bool.eq_false_or_eq_true (allB (fun i => decide (-100 ≤ gI x.ms i ∧ gI x.ms i ≤ 100)) x.ms.length) with h | h
  ·exact h
  ·exact absurd h hc
 exact of_decide_eq_true ((allB_iff _ _).1 h1 k hk)
theorem js_pair {x : JX} (hn : NearOk x) (hw : WfJ x) (h : styE x.s = 0) : PairAt x.s.s x.p x.q x.mv := ⟨rfl, rfl, js_ok hn hw (js_pl h)⟩
/- a size in which both have an outline -/
structure JsZ (x : JX) (m : Int) (A B : List Edge) (k : Nat) : Prop where
 eA : A = gradedE x.p.es x.p.cs m
 eB : B = gradedE (imP x.q x.mv x.p).es (imP x.q x.mv x.p).cs m
 lA : A.length = 2
 lB : B.length = 2
 c : (gE A 0).2.length = (gE B 0).2.length ∧ (gE A 0).2.length ≠ 0 ∧ cgN (gE A 0).2 (gE B 0).2 < 8
 zA : lcheck (gE A 0).2 = 0
 zB : lcheck (gE B 0).2 = 0
 n : lengthN (gE A 0).2 = lengthN (gE B 0).2
 u : unfE x.s.s (k : Int) = 0
 u' : unfL x.s.s (k : Int) = []
 v : unmE x.s.s (k : Int) = 0
 v' : unmL x.s.s (k : Int) = []
theorem js_zero {x : JX} (hn : NearOk x) (hw : WfJ x) (h : styE x.s = 0) {k : Nat} (hk : k < x.ms.length) : gradedR (imP x.q x.mv x.p).es (imP x.q x.mv x.p).cs (gI x.ms k) = gradedR x.p.es x.p.cs (gI x.ms k) :=
 im_gradedR (js_pair hn hw h).ok (js_ms h hk).1 (js_ms h hk).2
theorem js_size {x : JX} (hn : NearOk x) (hw : WfJ x) (h : styE x.s = 0) {k : Nat} (hk : k < x.ms.length) (hg : gradedR x.p.es x.p.cs (gI x.ms k) = 0) : JsZ x (gI x.ms k) (gradedE x.p.es x.p.cs (gI x.ms k)) (gradedE (imP x.q x.mv x.p).es (imP x.q x.mv x.p).cs (gI x.ms k)) k := by
 have hp := js_pair hn hw h
 have hg' := (js_zero hn hw h hk).trans hg
 have G := (gradedR_iff _ _ _).1 hg
 have G' := (gradedR_iff _ _ _).1 hg'
 have hz : sizeB x.s.s (k : Int) = true := decide_eq_true ⟨by omega, by show (k : Int) < (x.ms.length : Int); omega⟩
 have hmk : gI x.s.s.ms (k : Int).toNat = gI x.ms k := rfl
 have hG : GOk x.p.es x.p.cs (gI x.s.s.ms (k : Int).toNat) := by rw [hmk]; exact G
 have hun := pair_unm hp hz hG
 have hln := pair_lens hp hz hG
 have l1 : (gradedE x.p.es x.p.cs (gI x.ms k)).length = 2 := by rw [gradedE_len]; rfl
 have l2 : (gradedE (imP x.q x.mv x.p).es (imP x.q x.mv x.p).cs (gI x.ms k)).length = 2 := by rw [gradedE_len, im_len]; rfl
 have z1 : lcheck (gE (gradedE x.p.es x.p.cs (gI x.ms k)) 0).2 = 0 := ocheck_line G.ok' (by rw [l1]; omega)
 have z2 : lcheck (gE (gradedE (imP x.q x.mv x.p).es (imP x.q x.mv x.p).cs (gI x.ms k)) 0).2 = 0 := ocheck_line G'.ok' (by rw [l2]; omega)
 have hline := im_line hp.ok G (k := 0) (by rw [js_es]; omega)
 obtain ⟨a2, _, _⟩ := lcheck_zero z1
 have hlen : (gE (gradedE x.p.es x.p.cs (gI x.ms k)) 0).2.length = (gE (gradedE (imP x.q x.mv x.p).es (imP x.q x.mv x.p).cs (gI x.ms k)) 0).2.length := by rw [hline, List.length_map, List.length_map]
 have hgr : grdN (imP x.q x.mv x.p) (gI x.ms k) 0 = grdN x.p (gI x.ms k) 0 := (im_ok hp.ok G).2.2.2 0 (by rw [js_es]; omega)
 refine ⟨rfl, rfl, l1, l2, ⟨hlen, by omega, cgN_lt (cgI8_lt false x.q) (cgB_img (d := x.mv) (by omega) fun i hi => ?_)⟩, z1, z2, hgr.symm, ?_, ?_, hun.1, hun.2⟩
 ·rw [hline, gS_map (by rw [List.length_map]; exact hi), gS_map hi]; rfl
 ·unfold unfE
  rw [if_neg (by rw [hz]; decide)]
  refine (firstE_zero _ _).2 fun i hi => ?_
  have hi' : i < 1 := hi
  obtain rfl : i = 0 := by omega
  show (lensV x.s.s (k : Int) ((0 : Nat) : Int)).2.2 = 0
  rw [show lensV x.s.s (k : Int) ((0 : Nat) : Int) = _ from hln]
 ·show ((List.range 1).filter (unfF x.s.s (k : Int))).map _ = []
  have : unfF x.s.s (k : Int) 0 = false := by
   unfold unfF
   rw [show lensV x.s.s (k : Int) ((0 : Nat) : Int) = _ from hln, hp.sm]
   simp [gapN]
  simp [List.range_succ, this]
/- the blocks below n stay; a block keeps its type and its size -/
def Qr (n : Nat) (a b : World) : Prop := Kept (fun k => n ≤ k) a b ∧ ∀ t g cs, Blk t a g cs → ∃ cs', Blk t b g cs' ∧ cs'.length = cs.length
theorem Qr.refl (n : Nat) (w : World) : Qr n w w := ⟨Kept.refl _ _, fun _ _ cs h => ⟨cs, h, rfl⟩⟩
theorem Qr.trans {n : Nat} {a b c : World} (h : Qr n a b) (k : Qr n b c) : Qr n a c := ⟨h.1.trans k.1, fun t g cs hb => by
 obtain ⟨cs', h1, h2⟩ := h.2 t g cs hb
 obtain ⟨cs2, h3, h4⟩ := k.2 t g cs' h1
 exact ⟨cs2, h3, h4.trans h2⟩⟩
theorem Ext.qr {a b : World} (h : Ext a b) (n : Nat) : Qr n a b := ⟨h.kept _, fun _ _ cs hb => ⟨cs, hb.ext h, rfl⟩⟩
theorem Qr.set {n : Nat} {a b : World} (h : Qr n a b) {g : Nat} (hg : n ≤ g) (j : Nat) (u : Value) : Qr n a (b.setCell ⟨g, j, none⟩ u) := ⟨h.1.set (.inr hg) u, fun t k cs hb => by
 obtain ⟨cs', h1, h2⟩ := h.2 t k cs hb
 by_cases e : k = g
 ·subst e; exact ⟨_, h1.set j u, by simpa using h2⟩
 ·exact ⟨cs', h1.other (p := ⟨g, j, none⟩) e u, h2⟩⟩
theorem Qr.drew {n : Nat} {w : World} : Qr n w w.drew := (Ext.drew (Ext.refl w)).qr n
theorem Qr.out {n : Nat} {z a b : World} (h : Qr n a b) (he : Ext z a) (hn : z.heap.size ≤ n) : Ext z b := h.1.ext he (fun _ e => Nat.le_trans hn e)
def KpQ (n : Nat) (T : Value → World → Prop) : Prop := ∀ v w w', Qr n w w' → T v w → T v w'
theorem Fx.kpq (n : Nat) (u : Value) : KpQ n (Fx u) := fun _ _ _ _ h => h
/- a pointer to a block of a type, at or above n -/
def IsB (t : TypeId) (n c : Nat) : Value → World → Prop := fun v w => ∃ g cs, v = .pointer (some ⟨g, 0, none⟩) ∧ n ≤ g ∧ Blk t w g cs ∧ cs.length = c
theorem IsB.kpq (t : TypeId) (n c : Nat) : KpQ n (IsB t n c) := fun _ _ _ h hv => by
 obtain ⟨g, cs, h1, h2, h3, h4⟩ := hv
 obtain ⟨cs', h5, h6⟩ := h.2 t g cs h3
 exact ⟨g, cs', h1, h2, h5, h6.trans h4⟩
def AnyQ : Value → World → Prop := fun _ _ => True
theorem AnyQ.kpq (n : Nat) : KpQ n AnyQ := fun _ _ _ _ _ => trivial
def KpQL (n : Nat) : List (Value → World → Prop) → Prop
 |[] => True
 |T :: l => KpQ n T ∧ KpQL n l
theorem KpQL.at {n : Nat} : ∀ {l : List (Value → World → Prop)}, KpQL n l → ∀ (i : Nat) (v : Value) (w w' : World), Qr n w w' → tAt l i v w → tAt l i v w'
 |[], _, _, _, _, _, _, _ => trivial
 |_ :: _, h, 0, v, w, w', he, ht => h.1 v w w' he ht
 |_ :: l, h, i + 1, v, w, w', he, ht => KpQL.at (l := l) h.2 i v w w' he ht
section
variable {P : Program} {ops : Array Oper} {Q : Exit → Act → World → Prop}
/- one step; slots by a list; a store leaves no value: its slot number lies beyond the function's slots -/
def StepQ (P : Program) (ops : Array Oper) (Q : Exit → Act → World → Prop) (a : Act) (ds : List Nat) (N n : Nat) (W0 : World) (T : Nat → Value → World → Prop) (i : Nat) : Prop :=
 ∀ o, ops[i]? = some o → ∀ (b : Act) (w : World), Qr n W0 w → (∀ k, ds.contains k = false → b.eval (.tmp k) = a.eval (.tmp k)) → (∀ j d, ds[j]? = some d → d < N → onB' .any ops i j = true → T j (b.eval (.tmp d)) w) →
  ∀ K : Act → World → Prop, (∀ v w', Qr n w w' → T i v w' → K (b.put o.dst v) w') → if Region.wanted o (yielded ops b.tmps) = true then Oper.wp P o b w K Q else K (b.put o.dst undef) w
theorem region_slotsQ {id l N : Nat} {a : Act} {w W0 : World} (n : Nat) (ds : List Nat) (Ts : List (Value → World → Prop)) (hm : P.follows .mixedOrders = true)
  (hB : (ops.size == l + 1 && (List.range l).all (fun j => onB' .any ops l j) && slBackB ops) = true)
  (hD : (ds.length == l && decide ds.Nodup && (List.range l).all (fun i => match (ops[i]?).bind (·.dst) with | some d => decide (d < N) && (ds[i]? == some d) | none => decide (N ≤ ds.getD i 0))) = true) (hN : a.tmps.size = N) (hw : Qr n W0 w)
  (hT : KpQL n Ts) (hstep : ∀ i, i < l → StepQ P ops Q a ds N n W0 (tAt Ts) i)
  (hlast : ∀ xs w, Qr n W0 w → (∀ j, j < l → tAt Ts j (xs j) w) → ∀ o, ops[l]? = some o → ∀ b, b = frOf a ds xs → (∀ j d, ds[j]? = some d → d < N → b.eval (.tmp d) = xs j) →
   ∀ K : Act → World → Prop, (∀ a' w', Q .normal a' w' → K a' w') → if Region.wanted o (yielded ops b.tmps) = true then Oper.wp P o b w K Q else K (b.put o.dst undef) w) :
  (Code.region id ops true).wp P Q a w :=
 region_slotsR (Qr n) ds (tAt Ts) hm hB hD hN (hw.trans Qr.drew) (fun _ _ _ h k => h.trans k)
  (fun i hi o ho b xs w hR hb hv hd K hK => hstep i hi o ho b w hR hb (fun j d h hj hon => by rw [hv j d h hj]; exact hd j hon) K (fun v w' hq ht => hK v w' hq (fun j u _ h => KpQL.at hT j u _ _ hq h) ht))
  (fun o ho xs w hR hd b hb _ hv K hK => hlast xs w hR hd o ho b hb hv K hK)
end
theorem StyXAt.ps2 {w : World} {a : StyA} {x : StyX} (h : StyXAt w a x) (h2 : x.ps.length = 2) : ∃ b o o7 p0 p1, a.AP = some ⟨b, o, none⟩ ∧ o + 7 = o7 ∧ PcAt w p0 (gPx x.ps 0).p ∧ PcAt w p1 (gPx x.ps 1).p ∧ PcCells w b o p0 ∧ PcCells w b o7 p1 := by
 obtain ⟨b, o, p0, e0, h0, c0, _, _⟩ := h.P 0 (by omega)
 obtain ⟨b', o', p1, e1, h1, c1, _, _⟩ := h.P 1 (by omega)
 rw [e0] at e1
 injection e1 with e1
 injection e1 with e1 e2
 subst e1 e2
 exact ⟨b, o, _, p0, p1, e0, rfl, h0, h1, by simpa using c0, by simpa using c1⟩
theorem gradedP_any {w : World} {a : PcA} {p : Pc} {m R : Int} {E : List Edge} {n : Nat} (hR : R = gradedR p.es p.cs m) (hE : E = gradedE p.es p.cs m) (h : PcAt w a p) (hn : n ≤ w.heap.size) : Calls Tryz.prog 15 #[a.val, .int .i64 m] w (Ret (IsG n R E) w) := by
 subst hR hE
 exact retG_is (graded_any a.nm a.AE a.AN a.AC a.AW a.nE a.cE a.nN a.cN a.nC a.cC a.nW a.cW a.gr m a.mt p.es p.cs w h.e h.le h.ce h.ce' h.c h.lc h.nc) hn
theorem unfit_none {w : World} {a : StyA} {s : Sty} {z : Int} (hs : StyAt w a s) (hn : a.nK ≤ 1000) (h0 : unfE s z = 0) (h1 : unfL s z = []) : Calls Tryz.prog 18 #[a.val, .int .i64 z] w fun e w' => (∃ A c, e = .returned (.tuple #[.slice A 0 c, .int .i64 0])) ∧ Ext w w' :=
 (unfit_any a s z w hs hn).mono fun e w' h => by
  obtain ⟨v, he, ho, _, hx⟩ := h
  have ho := ho h0
  rw [h1] at ho
  obtain ⟨A, c, hv, _⟩ := OwnI.slice ho
  rw [h0, hv] at he
  exact ⟨⟨A, c, he⟩, hx⟩
theorem unm_none {w : World} {a : StyA} {s : Sty} {z : Int} (hs : StyAt w a s) (hn : a.nK ≤ 1000) (h0 : unmE s z = 0) (h1 : unmL s z = []) : Calls Tryz.prog 19 #[a.val, .int .i64 z] w fun e w' => (∃ A c, e = .returned (.tuple #[.slice A 0 c, .int .i64 0])) ∧ Ext w w' :=
 (unmatched_any a s z w hs hn).mono fun e w' h => by
  obtain ⟨v, he, ho, _, hx⟩ := h
  have ho := ho h0
  rw [h1] at ho
  rcases ho.2 with ⟨rfl, _⟩ | ⟨g, cap, cur, rfl, _⟩
  ·rw [h0] at he; exact ⟨⟨none, 0, he⟩, hx⟩
  ·rw [h0] at he; exact ⟨⟨some ⟨g, 0, none⟩, cap, he⟩, hx⟩
theorem sizeN_le (x : JX) (k : Nat) (hk : k < x.s.sz.length) : (gB x.s.sz k).size ≤ 1000 := by
 have h : gB x.s.sz k = sizeN k := by
  have hk' : k < x.ms.length := by
   have h : x.s.sz.length = x.ms.length := by show ((List.range x.ms.length).map sizeN).length = _; rw [List.length_map, List.length_range]
   omega
  show ((List.range x.ms.length).map sizeN).getD k ⟨#[]⟩ = _
  rw [List.getD_eq_getElem?_getD, List.getElem?_map, List.getElem?_range hk']; rfl
 rw [h]
 show 2 ≤ 1000
 omega
set_option maxRecDepth 100000 in
set_option maxHeartbeats 6400000 in
theorem topSeams_any (a : JA) (x : JX) (w : World) (ha : JAt w a x) (hw : WfJ x) :
  Calls Tryz.prog 4 #[a.val x] w fun e w' => e = .returned (.bool true) ∧ Ext w w' := by
 have HA := Lib.hid ha; have HW := Lib.hid hw; clear ha hw
 have HNE : Hid (∀ W, Ext w W → Calls Tryz.prog 13 #[a.val x] W (RetNe W x)) := fun W h => near_any a x W (HA.out.ext h)
 have HPT : Hid (∀ W, Ext w W → NearOk x → Calls Tryz.prog 14 #[a.val x] W (RetPr W x)) := fun W h hn => partners_any a x W (HA.out.ext h) hn
 simp only [JA.val] at HNE HPT ⊢
 go_enter Tryz.func4, Tryz.ntmps4
 go_upto_region 1 with fail
 refine wp_at fun W0 hW0 => ?_
 have HB0 : Hid (Blk 51 W0 w.heap.size [.slice a.AL a.nL a.cL, .int .i64 x.st.1, .int .i64 x.st.2, .int .i64 x.en.1, .int .i64 x.en.2, .bool x.f, .int .i64 x.q, .int .i64 x.mv.1, .int .i64 x.mv.2, .int .i64 x.ap.1, .int .i64 x.ap.2, .slice a.AM a.nM a.cM, .slice a.AN a.nN a.cN]) := by show Blk _ _ _ _; rw [hW0]; exact Blk.new' rfl
 have HX0 : Hid (Ext w W0) := by show Ext _ _; rw [hW0]; exact (Ext.refl _).alloc _
 clear hW0
 obtain ⟨j0, j1, j2, j3, j4, j5, j6, j7, j8, j9, j10, j11, j12⟩ := blk13 HB0.out
 go_wp2_with fail
 refine (HNE.out _ HX0.out).mono ?_
 rintro e w1 ⟨bb, rfl, he1, hn⟩
 have HX1 := Lib.hid (HX0.out.trans he1); have HB1 := Lib.hid (HB0.out.ext he1)
 clear j0 j1 j2 j3 j4 j5 j6 j7 j8 j9 j10 j11 j12 he1 HB0 HX0 HNE
 cases bb with
 |false =>
  clear hn
  go_wp2_with fail
  refine (patterns_any _).mono ?_
  rintro e w2 ⟨rfl, he2⟩
  have HX2 := Lib.hid (HX1.out.trans he2)
  clear he2
  go_wp2_with fail
  go_ret
  exact ⟨rfl, HX2.out⟩
 |true =>
  have HN := Lib.hid (hn rfl)
  clear hn
  obtain ⟨j0, j1, j2, j3, j4, j5, j6, j7, j8, j9, j10, j11, j12⟩ := blk13 HB1.out
  go_wp2_with fail
  refine (HPT.out _ HX1.out HN.out).mono ?_
  rintro e w2 ⟨sa, rfl, hs, he2⟩
  have HX2 := Lib.hid (HX1.out.trans he2)
  clear j0 j1 j2 j3 j4 j5 j6 j7 j8 j9 j10 j11 j12 he2 HB1 HX1 HPT HA
  have hps := hs.ps2 rfl
  have h5 : x.ms.length ≤ 5 := HN.out.m5
  obtain ⟨nm, AS, nS, cS, AM, nM, cM, AP, nP, cP, AU, nU, cU, AK, nK, cK, AO, nO, cO⟩ := sa
  obtain ⟨bp, oz, o7, pa0, pa1, hAP, ho7, hp0, hp1, hc0, hc1⟩ := hps
  obtain rfl : AP = some ⟨bp, oz, none⟩ := hAP
  have hlm : x.ms.length = nM := hs.lM
  obtain rfl : nM = nS := by
   have h1 : x.s.sz.length = nS := hs.lS
   have h2 : x.s.sz.length = x.ms.length := by show ((List.range x.ms.length).map sizeN).length = _; rw [List.length_map, List.length_range]
   omega
  obtain rfl : 2 = nP := hs.lP
  have hnK : nK ≤ 1000 := by have h1 : 1 = nK := hs.lK; omega
  obtain ⟨pnm0, pAE0, pnE0, pcE0, pgr0, pAN0, pnN0, pcN0, pAC0, pnC0, pcC0, pAW0, pnW0, pcW0, pmt0⟩ := pa0
  obtain ⟨pnm1, pAE1, pnE1, pcE1, pgr1, pAN1, pnN1, pcN1, pAC1, pnC1, pcC1, pAW1, pnW1, pcW1, pmt1⟩ := pa1
  have HSX := Lib.hid hs; have HLM := Lib.hid hlm; have HP0 := Lib.hid hp0; have HP1 := Lib.hid hp1; have HPC0 := Lib.hid hc0; have HPC1 := Lib.hid hc1; have HNK := Lib.hid hnK
  have HM : Hid (IntsAt w2 AM x.ms) := hs.M
  clear hs hlm hp0 hp1 hc0 hc1 hnK
  simp only [StyA.val]
  have HCK : Hid (∀ W, Ext w2 W → Calls Tryz.prog 6 #[.agg #[.string nm, .slice AS nM cS, .slice AM nM cM, .slice (some ⟨bp, oz, none⟩) 2 cP, .slice AU nU cU, .slice AK nK cK, .slice AO nO cO]] W fun e w' => e = .returned (.int .i64 (styE x.s)) ∧ Ext W w') := fun W h => styCheck_any ⟨nm, AS, nM, cS, AM, nM, cM, some ⟨bp, oz, none⟩, 2, cP, AU, nU, cU, AK, nK, cK, AO, nO, cO⟩ x.s W (HSX.out.ext h) (by rw [HSX.out.lS]; show nM ≤ 1000; rw [← HLM.out]; omega) (sizeN_le x)
  go_upto_region 4 with fail
  refine wp_at fun W3 hW3 => ?_
  have HB3 : Hid (Blk 29 W3 w2.heap.size [.string nm, .slice AS nM cS, .slice AM nM cM, .slice (some ⟨bp, oz, none⟩) 2 cP, .slice AU nU cU, .slice AK nK cK, .slice AO nO cO]) := by show Blk _ _ _ _; rw [hW3]; exact Blk.new' rfl
  have HX3 : Hid (Ext w2 W3) := by show Ext _ _; rw [hW3]; exact (Ext.refl _).alloc _
  clear hW3
  obtain ⟨GS, hGS⟩ : ∃ G, G = w2.heap.size := ⟨_, rfl⟩
  rw [← hGS] at HB3 ⊢
  clear hGS
  obtain ⟨s0, s1, s2, s3, s4, s5, s6⟩ := blk7 HB3.out
  go_wp2_with fail
  refine (HCK.out _ HX3.out).mono ?_
  rintro e WS ⟨rfl, heS⟩
  have HBS := Lib.hid (HB3.out.ext heS); have HXS := Lib.hid (HX3.out.trans heS)
  clear s0 s1 s2 s3 s4 s5 s6 heS HB3 HX3 HCK
  obtain ⟨E, hE⟩ : ∃ E, E = styE x.s := ⟨_, rfl⟩
  rw [← hE]
  have HE := Lib.hid hE
  clear hE
  by_cases hz : E = 0
  rotate_left
  ·have hzb : (E != 0) = true := by simp [hz]
   clear hz
   go_wp2_with fail
   refine (patterns_any _).mono ?_
   rintro e w3 ⟨rfl, he3⟩
   have HX4 := Lib.hid ((HX2.out.trans HXS.out).trans he3)
   clear he3
   go_wp2_with fail
   go_ret
   exact ⟨rfl, HX4.out⟩
  subst hz
  have HOK : Hid (styE x.s = 0) := HE.out.symm
  have HS2 := Lib.hid (HSX.out.ext HXS.out)
  have HPC0' := Lib.hid (HPC0.out.ext HXS.out); have HPC1' := Lib.hid (HPC1.out.ext HXS.out); have HP0' := Lib.hid (HP0.out.ext HXS.out); have HP1' := Lib.hid (HP1.out.ext HXS.out); have HM' := Lib.hid (HM.out.ext HXS.out)
  have HXW := Lib.hid (HX2.out.trans HXS.out)
  clear HPC0 HPC1 HP0 HP1 HM HSX HE HX2 HXS
  go_wp2_with fail
  go_loopw [4] (fun i wr => ∃ k : Nat, k ≤ nM ∧ i = .int .i64 k ∧ Ext WS wr) (fun i _ => nM - (intOf i).toNat)
  case atStart => exact ⟨0, Nat.zero_le _, rfl, Ext.refl _⟩
  case round =>
   obtain ⟨k, hk, rfl, hx⟩ := hrel
   have HXR := Lib.hid hx
   clear hx
   obtain ⟨wR, rfl⟩ : ∃ wR : World, wR = wr := ⟨_, rfl⟩
   obtain ⟨s0, s1, s2, s3, s4, s5, s6⟩ := blk7 (HBS.out.ext HXR.out)
   by_cases hlt : k < nM
   rotate_left
   ·obtain rfl : k = nM := by omega
    go_wp2_with fail
    refine (patterns_any _).mono ?_
    rintro e w3 ⟨rfl, he3⟩
    have HX4 := Lib.hid ((HXW.out.trans HXR.out).trans he3)
    clear he3 s0 s1 s2 s3 s4 s5 s6
    go_wp2_with fail
    go_ret
    exact ⟨rfl, HX4.out⟩
   have hkm : k < x.ms.length := by rw [HLM.out]; exact hlt
   have hk1 : (k : Int) < (nM : Int) := by omega
   obtain ⟨bm, om, rfl, m0⟩ := (HM'.out.ext HXR.out).g (k := k) hkm
   obtain ⟨m, hm⟩ : ∃ m, m = gI x.ms k := ⟨_, rfl⟩
   obtain ⟨R, hR⟩ : ∃ R, R = gradedR x.p.es x.p.cs m := ⟨_, rfl⟩
   obtain ⟨EA, hEA⟩ : ∃ E, E = gradedE x.p.es x.p.cs m := ⟨_, rfl⟩
   obtain ⟨EB, hEB⟩ : ∃ E, E = gradedE (imP x.q x.mv x.p).es (imP x.q x.mv x.p).cs m := ⟨_, rfl⟩
   have hR' : R = gradedR (imP x.q x.mv x.p).es (imP x.q x.mv x.p).cs m := by rw [hR, hm]; exact (js_zero HN.out HW.out HOK.out hkm).symm
   have HJZ : Hid (R = 0 → JsZ x m EA EB k) := by
    intro h0
    have h1 := js_size HN.out HW.out HOK.out hkm (by rw [← hm, ← hR]; exact h0)
    rw [hEA, hEB, hm]; exact h1
   rw [← hm] at m0
   have HM0 := Lib.hid m0
   have HGA : Hid (∀ n W, Ext WS W → n ≤ W.heap.size → Calls Tryz.prog 15 #[.agg #[.string pnm0, .slice pAE0 pnE0 pcE0, .int .i64 pgr0, .slice pAN0 pnN0 pcN0, .slice pAC0 pnC0 pcC0, .slice pAW0 pnW0 pcW0, .bool pmt0], .int .i64 m] W (Ret (IsG n R EA) W)) := fun n W h hn => gradedP_any (a := ⟨pnm0, pAE0, pnE0, pcE0, pgr0, pAN0, pnN0, pcN0, pAC0, pnC0, pcC0, pAW0, pnW0, pcW0, pmt0⟩) hR hEA (HP0'.out.ext h) hn
   have HGB : Hid (∀ n W, Ext WS W → n ≤ W.heap.size → Calls Tryz.prog 15 #[.agg #[.string pnm1, .slice pAE1 pnE1 pcE1, .int .i64 pgr1, .slice pAN1 pnN1 pcN1, .slice pAC1 pnC1 pcC1, .slice pAW1 pnW1 pcW1, .bool pmt1], .int .i64 m] W (Ret (IsG n R EB) W)) := fun n W h hn => gradedP_any (a := ⟨pnm1, pAE1, pnE1, pcE1, pgr1, pAN1, pnN1, pcN1, pAC1, pnC1, pcC1, pAW1, pnW1, pcW1, pmt1⟩) hR' hEB (HP1'.out.ext h) hn
   clear m0 hm hR hEA hEB hR'
   go_upto_region 9 with fail
   clear s0 s1 s2 s3 s4 s5 s6
   refine region_slots0 (l := 15) (N := 157) (W0 := wR) [38, 39, 40, 41, 42, 43, 44, 45, 46, 47, 37, 48, 49, 5, 6] [Fx (.pointer (some ⟨GS, 3, none⟩)), Fx (.slice (some ⟨bp, oz, none⟩) 2 cP), Fx (.pointer (some ⟨bp, oz, none⟩)), Fx (.agg #[.string pnm0, .slice pAE0 pnE0 pcE0, .int .i64 pgr0, .slice pAN0 pnN0 pcN0, .slice pAC0 pnC0 pcC0, .slice pAW0 pnW0 pcW0, .bool pmt0]), Fx (.pointer (some ⟨GS, 2, none⟩)), Fx (.slice (some ⟨bm, om, none⟩) nM cM), Fx (.int .i64 (k : Int)), Fx (.pointer (some ⟨bm, om + k, none⟩)), Fx (.int .i64 m), IsG wR.heap.size R EA, IsG wR.heap.size R EA, IsGe wR.heap.size R EA, Fx (.int .i64 R), IsGe wR.heap.size R EA, Fx (.int .i64 R)] (by kernel_rfl) (by kernel_rfl) (by kernel_rfl) (by kernel_rfl) (Ext.refl _) ?kp (fun i hi => ?_) (fun xs w1 hx hT => ?_)
   case kp => exact ⟨Fx.kp _, Fx.kp _, Fx.kp _, Fx.kp _, Fx.kp _, Fx.kp _, Fx.kp _, Fx.kp _, Fx.kp _, IsG.kp _ _ _, IsG.kp _ _ _, IsGe.kp _ _ _, Fx.kp _, IsGe.kp _ _ _, Fx.kp _, trivial⟩
   ·match i, hi with
    |0, _ =>
     refine so rfl ?_
     intro fb wi hx hb hd K hK
     have x3 : fb.eval (.tmp 3) = .pointer (some ⟨GS, 0, none⟩) := hb 3 (by kernel_rfl)
     refine step_valR (wanted_all rfl) (v := .pointer (some ⟨GS, 3, none⟩)) (w' := wi) (fun ρ hρ hc => ?_) (hK _ _ (Ext.refl _) (rfl))
     have r3 := (hρ (.tmp 3)).trans x3
     simp [execOp, go_sem, r3]
    |1, _ =>
     refine so rfl ?_
     intro fb wi hx hb hd K hK
     have x38 : fb.eval (.tmp 38) = .pointer (some ⟨GS, 3, none⟩) := hd 0 38 rfl (by kernel_rfl)
     have cf0 := (HBS.out.ext (HXR.out.trans hx)).cell 3
     simp only [List.getElem?_cons_zero, List.getElem?_cons_succ] at cf0
     refine step_valR (wanted_all rfl) (v := .slice (some ⟨bp, oz, none⟩) 2 cP) (w' := wi) (fun ρ hρ hc => ?_) (hK _ _ (Ext.refl _) (rfl))
     have r38 := (hρ (.tmp 38)).trans x38
     simp [execOp, go_sem, r38, cf0]
    |2, _ =>
     refine so rfl ?_
     intro fb wi hx hb hd K hK
     have x39 : fb.eval (.tmp 39) = .slice (some ⟨bp, oz, none⟩) 2 cP := hd 1 39 rfl (by kernel_rfl)
     refine step_valR (wanted_all rfl) (v := .pointer (some ⟨bp, oz, none⟩)) (w' := wi) (fun ρ hρ hc => ?_) (hK _ _ (Ext.refl _) (rfl))
     have r39 := (hρ (.tmp 39)).trans x39
     simp [execOp, go_sem, hc, r39]
    |3, _ =>
     refine so rfl ?_
     intro fb wi hx hb hd K hK
     have x40 : fb.eval (.tmp 40) = .pointer (some ⟨bp, oz, none⟩) := hd 2 40 rfl (by kernel_rfl)
     obtain ⟨d0, d1, d2, d3, d4, d5, d6⟩ := HPC0'.out.ext (HXR.out.trans hx)
     refine step_valR (wanted_all rfl) (v := .agg #[.string pnm0, .slice pAE0 pnE0 pcE0, .int .i64 pgr0, .slice pAN0 pnN0 pcN0, .slice pAC0 pnC0 pcC0, .slice pAW0 pnW0 pcW0, .bool pmt0]) (w' := wi) (fun ρ hρ hc => ?_) (hK _ _ (Ext.refl _) (rfl))
     have r40 := (hρ (.tmp 40)).trans x40
     simp [execOp, go_sem, r40, d0, d1, d2, d3, d4, d5, d6]
    |4, _ =>
     refine so rfl ?_
     intro fb wi hx hb hd K hK
     have x3 : fb.eval (.tmp 3) = .pointer (some ⟨GS, 0, none⟩) := hb 3 (by kernel_rfl)
     refine step_valR (wanted_all rfl) (v := .pointer (some ⟨GS, 2, none⟩)) (w' := wi) (fun ρ hρ hc => ?_) (hK _ _ (Ext.refl _) (rfl))
     have r3 := (hρ (.tmp 3)).trans x3
     simp [execOp, go_sem, r3]
    |5, _ =>
     refine so rfl ?_
     intro fb wi hx hb hd K hK
     have x42 : fb.eval (.tmp 42) = .pointer (some ⟨GS, 2, none⟩) := hd 4 42 rfl (by kernel_rfl)
     have cf0 := (HBS.out.ext (HXR.out.trans hx)).cell 2
     simp only [List.getElem?_cons_zero, List.getElem?_cons_succ] at cf0
     refine step_valR (wanted_all rfl) (v := .slice (some ⟨bm, om, none⟩) nM cM) (w' := wi) (fun ρ hρ hc => ?_) (hK _ _ (Ext.refl _) (rfl))
     have r42 := (hρ (.tmp 42)).trans x42
     simp [execOp, go_sem, r42, cf0]
    |6, _ =>
     refine so rfl ?_
     intro fb wi hx hb hd K hK
     have x4 : fb.eval (.tmp 4) = .int .i64 (k : Int) := hb 4 (by kernel_rfl)
     refine step_valR (wanted_all rfl) (v := .int .i64 (k : Int)) (w' := wi) (fun ρ hρ hc => ?_) (hK _ _ (Ext.refl _) (rfl))
     have r4 := (hρ (.tmp 4)).trans x4
     simp [execOp, go_sem, r4]
    |7, _ =>
     refine so rfl ?_
     intro fb wi hx hb hd K hK
     have x43 : fb.eval (.tmp 43) = .slice (some ⟨bm, om, none⟩) nM cM := hd 5 43 rfl (by kernel_rfl)
     have x44 : fb.eval (.tmp 44) = .int .i64 (k : Int) := hd 6 44 rfl (by kernel_rfl)
     refine step_valR (wanted_all rfl) (v := .pointer (some ⟨bm, om + k, none⟩)) (w' := wi) (fun ρ hρ hc => ?_) (hK _ _ (Ext.refl _) (rfl))
     have r43 := (hρ (.tmp 43)).trans x43
     have r44 := (hρ (.tmp 44)).trans x44
     simp [execOp, go_sem, r43, r44, hk1, hlt]
    |8, _ =>
     refine so rfl ?_
     intro fb wi hx hb hd K hK
     have x45 : fb.eval (.tmp 45) = .pointer (some ⟨bm, om + k, none⟩) := hd 7 45 rfl (by kernel_rfl)
     have v0 := hx.cell HM0.out
     refine step_valR (wanted_all rfl) (v := .int .i64 m) (w' := wi) (fun ρ hρ hc => ?_) (hK _ _ (Ext.refl _) (rfl))
     have r45 := (hρ (.tmp 45)).trans x45
     simp [execOp, go_sem, r45, v0]
    |9, _ =>
     refine so rfl ?_
     intro fb wi hx hb hd K hK
     have x41 : fb.eval (.tmp 41) = .agg #[.string pnm0, .slice pAE0 pnE0 pcE0, .int .i64 pgr0, .slice pAN0 pnN0 pcN0, .slice pAC0 pnC0 pcC0, .slice pAW0 pnW0 pcW0, .bool pmt0] := hd 3 41 rfl (by kernel_rfl)
     have x46 : fb.eval (.tmp 46) = .int .i64 m := hd 8 46 rfl (by kernel_rfl)
     refine step_callW (wanted_all rfl) 15 [.tmp 41, .tmp 46] #[40, 3] rfl _ Tryz.func15 rfl (by decide +kernel) [.agg #[.string pnm0, .slice pAE0 pnE0 pcE0, .int .i64 pgr0, .slice pAN0 pnN0 pcN0, .slice pAC0 pnC0 pcC0, .slice pAW0 pnW0 pcW0, .bool pmt0], .int .i64 m] (by simp only [List.map_cons, List.map_nil, x41, x46]) (HGA.out _ wi (HXR.out.trans hx) hx.size) (fun e w' h => ?_)
     obtain ⟨v, rfl, hv, hx'⟩ := h
     exact ⟨_, rfl, hK _ _ hx' hv⟩
    |10, _ =>
     refine so rfl ?_
     intro fb wi hx hb hd K hK
     have y47 : IsG wR.heap.size R EA (fb.eval (.tmp 47)) wi := hd 9 47 rfl (by kernel_rfl)
     refine step_valR (wanted_all rfl) (v := fb.eval (.tmp 47)) (w' := wi) (fun ρ hρ hc => ?_) (hK _ _ (Ext.refl _) y47)
     simp [execOp, go_sem, hρ (.tmp 47)]
    |11, _ =>
     refine so rfl ?_
     intro fb wi hx hb hd K hK
     have y37 : IsG wR.heap.size R EA (fb.eval (.tmp 37)) wi := hd 10 37 rfl (by kernel_rfl)
     obtain ⟨u50, x37, hu50⟩ := y37
     refine step_valR (wanted_all rfl) (v := u50) (w' := wi) (fun ρ hρ hc => ?_) (hK _ _ (Ext.refl _) (hu50))
     have r37 := (hρ (.tmp 37)).trans x37
     simp [execOp, go_sem, r37]
    |12, _ =>
     refine so rfl ?_
     intro fb wi hx hb hd K hK
     have y37 : IsG wR.heap.size R EA (fb.eval (.tmp 37)) wi := hd 10 37 rfl (by kernel_rfl)
     obtain ⟨u50, x37, hu50⟩ := y37
     refine step_valR (wanted_all rfl) (v := .int .i64 R) (w' := wi) (fun ρ hρ hc => ?_) (hK _ _ (Ext.refl _) (rfl))
     have r37 := (hρ (.tmp 37)).trans x37
     simp [execOp, go_sem, r37]
    |13, _ =>
     refine so rfl ?_
     intro fb wi hx hb hd K hK
     have y48 : IsGe wR.heap.size R EA (fb.eval (.tmp 48)) wi := hd 11 48 rfl (by kernel_rfl)
     refine step_valR (wanted_all rfl) (v := fb.eval (.tmp 48)) (w' := wi) (fun ρ hρ hc => ?_) (hK _ _ (Ext.refl _) y48)
     simp [execOp, go_sem, hρ (.tmp 48)]
    |14, _ =>
     refine so rfl ?_
     intro fb wi hx hb hd K hK
     have y49 : Fx (.int .i64 R) (fb.eval (.tmp 49)) wi := hd 12 49 rfl (by kernel_rfl)
     refine step_valR (wanted_all rfl) (v := fb.eval (.tmp 49)) (w' := wi) (fun ρ hρ hc => ?_) (hK _ _ (Ext.refl _) y49)
     simp [execOp, go_sem, hρ (.tmp 49)]
    |n + 15, hn => exact absurd hn (by omega)
   ·skip
    simp only [frOf, putAll, List.drop_succ_cons, List.drop_zero, List.setIfInBounds_toArray, List.set_cons_succ, List.set_cons_zero, Nat.zero_add, Nat.reduceAdd]
    have t13 : IsGe wR.heap.size R EA (xs 13) w1 := hT 13 (by decide)
    have t14 : xs 14 = .int .i64 R := hT 14 (by decide)
    rw [t14]
    obtain ⟨v5, hv5⟩ : ∃ v, v = xs 13 := ⟨_, rfl⟩
    rw [← hv5] at t13 ⊢
    clear hv5 t14
    have HT5 := Lib.hid t13
    have HXF := Lib.hid (HXR.out.trans hx)
    have HM1 := Lib.hid (hx.cell HM0.out)
    clear hT t13 hx
    obtain ⟨WF, rfl⟩ : ∃ W : World, W = w1 := ⟨_, rfl⟩
    go_upto_region 10 with fail
    refine region_slots0 (l := 15) (N := 157) (W0 := WF) [51, 52, 53, 54, 55, 56, 57, 58, 59, 60, 50, 61, 62, 7, 8] [Fx (.pointer (some ⟨GS, 3, none⟩)), Fx (.slice (some ⟨bp, oz, none⟩) 2 cP), Fx (.pointer (some ⟨bp, o7, none⟩)), Fx (.agg #[.string pnm1, .slice pAE1 pnE1 pcE1, .int .i64 pgr1, .slice pAN1 pnN1 pcN1, .slice pAC1 pnC1 pcC1, .slice pAW1 pnW1 pcW1, .bool pmt1]), Fx (.pointer (some ⟨GS, 2, none⟩)), Fx (.slice (some ⟨bm, om, none⟩) nM cM), Fx (.int .i64 (k : Int)), Fx (.pointer (some ⟨bm, om + k, none⟩)), Fx (.int .i64 m), IsG WF.heap.size R EB, IsG WF.heap.size R EB, IsGe WF.heap.size R EB, Fx (.int .i64 R), IsGe WF.heap.size R EB, Fx (.int .i64 R)] (by kernel_rfl) (by kernel_rfl) (by kernel_rfl) (by kernel_rfl) (Ext.refl _) ?kp (fun i hi => ?_) (fun xs w1 hx hT => ?_)
    case kp => exact ⟨Fx.kp _, Fx.kp _, Fx.kp _, Fx.kp _, Fx.kp _, Fx.kp _, Fx.kp _, Fx.kp _, Fx.kp _, IsG.kp _ _ _, IsG.kp _ _ _, IsGe.kp _ _ _, Fx.kp _, IsGe.kp _ _ _, Fx.kp _, trivial⟩
    ·match i, hi with
     |0, _ =>
      refine so rfl ?_
      intro fb wi hx hb hd K hK
      have x3 : fb.eval (.tmp 3) = .pointer (some ⟨GS, 0, none⟩) := hb 3 (by kernel_rfl)
      refine step_valR (wanted_all rfl) (v := .pointer (some ⟨GS, 3, none⟩)) (w' := wi) (fun ρ hρ hc => ?_) (hK _ _ (Ext.refl _) (rfl))
      have r3 := (hρ (.tmp 3)).trans x3
      simp [execOp, go_sem, r3]
     |1, _ =>
      refine so rfl ?_
      intro fb wi hx hb hd K hK
      have x51 : fb.eval (.tmp 51) = .pointer (some ⟨GS, 3, none⟩) := hd 0 51 rfl (by kernel_rfl)
      have cf0 := (HBS.out.ext (HXF.out.trans hx)).cell 3
      simp only [List.getElem?_cons_zero, List.getElem?_cons_succ] at cf0
      refine step_valR (wanted_all rfl) (v := .slice (some ⟨bp, oz, none⟩) 2 cP) (w' := wi) (fun ρ hρ hc => ?_) (hK _ _ (Ext.refl _) (rfl))
      have r51 := (hρ (.tmp 51)).trans x51
      simp [execOp, go_sem, r51, cf0]
     |2, _ =>
      refine so rfl ?_
      intro fb wi hx hb hd K hK
      have x52 : fb.eval (.tmp 52) = .slice (some ⟨bp, oz, none⟩) 2 cP := hd 1 52 rfl (by kernel_rfl)
      refine step_valR (wanted_all rfl) (v := .pointer (some ⟨bp, o7, none⟩)) (w' := wi) (fun ρ hρ hc => ?_) (hK _ _ (Ext.refl _) (rfl))
      have r52 := (hρ (.tmp 52)).trans x52
      simp [execOp, go_sem, hc, r52, ho7]
     |3, _ =>
      refine so rfl ?_
      intro fb wi hx hb hd K hK
      have x53 : fb.eval (.tmp 53) = .pointer (some ⟨bp, o7, none⟩) := hd 2 53 rfl (by kernel_rfl)
      obtain ⟨d0, d1, d2, d3, d4, d5, d6⟩ := HPC1'.out.ext (HXF.out.trans hx)
      refine step_valR (wanted_all rfl) (v := .agg #[.string pnm1, .slice pAE1 pnE1 pcE1, .int .i64 pgr1, .slice pAN1 pnN1 pcN1, .slice pAC1 pnC1 pcC1, .slice pAW1 pnW1 pcW1, .bool pmt1]) (w' := wi) (fun ρ hρ hc => ?_) (hK _ _ (Ext.refl _) (rfl))
      have r53 := (hρ (.tmp 53)).trans x53
      simp [execOp, go_sem, r53, d0, d1, d2, d3, d4, d5, d6]
     |4, _ =>
      refine so rfl ?_
      intro fb wi hx hb hd K hK
      have x3 : fb.eval (.tmp 3) = .pointer (some ⟨GS, 0, none⟩) := hb 3 (by kernel_rfl)
      refine step_valR (wanted_all rfl) (v := .pointer (some ⟨GS, 2, none⟩)) (w' := wi) (fun ρ hρ hc => ?_) (hK _ _ (Ext.refl _) (rfl))
      have r3 := (hρ (.tmp 3)).trans x3
      simp [execOp, go_sem, r3]
     |5, _ =>
      refine so rfl ?_
      intro fb wi hx hb hd K hK
      have x55 : fb.eval (.tmp 55) = .pointer (some ⟨GS, 2, none⟩) := hd 4 55 rfl (by kernel_rfl)
      have cf0 := (HBS.out.ext (HXF.out.trans hx)).cell 2
      simp only [List.getElem?_cons_zero, List.getElem?_cons_succ] at cf0
      refine step_valR (wanted_all rfl) (v := .slice (some ⟨bm, om, none⟩) nM cM) (w' := wi) (fun ρ hρ hc => ?_) (hK _ _ (Ext.refl _) (rfl))
      have r55 := (hρ (.tmp 55)).trans x55
      simp [execOp, go_sem, r55, cf0]
     |6, _ =>
      refine so rfl ?_
      intro fb wi hx hb hd K hK
      have x4 : fb.eval (.tmp 4) = .int .i64 (k : Int) := hb 4 (by kernel_rfl)
      refine step_valR (wanted_all rfl) (v := .int .i64 (k : Int)) (w' := wi) (fun ρ hρ hc => ?_) (hK _ _ (Ext.refl _) (rfl))
      have r4 := (hρ (.tmp 4)).trans x4
      simp [execOp, go_sem, r4]
     |7, _ =>
      refine so rfl ?_
      intro fb wi hx hb hd K hK
      have x56 : fb.eval (.tmp 56) = .slice (some ⟨bm, om, none⟩) nM cM := hd 5 56 rfl (by kernel_rfl)
      have x57 : fb.eval (.tmp 57) = .int .i64 (k : Int) := hd 6 57 rfl (by kernel_rfl)
      refine step_valR (wanted_all rfl) (v := .pointer (some ⟨bm, om + k, none⟩)) (w' := wi) (fun ρ hρ hc => ?_) (hK _ _ (Ext.refl _) (rfl))
      have r56 := (hρ (.tmp 56)).trans x56
      have r57 := (hρ (.tmp 57)).trans x57
      simp [execOp, go_sem, r56, r57, hk1, hlt]
     |8, _ =>
      refine so rfl ?_
      intro fb wi hx hb hd K hK
      have x58 : fb.eval (.tmp 58) = .pointer (some ⟨bm, om + k, none⟩) := hd 7 58 rfl (by kernel_rfl)
      have v0 := hx.cell HM1.out
      refine step_valR (wanted_all rfl) (v := .int .i64 m) (w' := wi) (fun ρ hρ hc => ?_) (hK _ _ (Ext.refl _) (rfl))
      have r58 := (hρ (.tmp 58)).trans x58
      simp [execOp, go_sem, r58, v0]
     |9, _ =>
      refine so rfl ?_
      intro fb wi hx hb hd K hK
      have x54 : fb.eval (.tmp 54) = .agg #[.string pnm1, .slice pAE1 pnE1 pcE1, .int .i64 pgr1, .slice pAN1 pnN1 pcN1, .slice pAC1 pnC1 pcC1, .slice pAW1 pnW1 pcW1, .bool pmt1] := hd 3 54 rfl (by kernel_rfl)
      have x59 : fb.eval (.tmp 59) = .int .i64 m := hd 8 59 rfl (by kernel_rfl)
      refine step_callW (wanted_all rfl) 15 [.tmp 54, .tmp 59] #[40, 3] rfl _ Tryz.func15 rfl (by decide +kernel) [.agg #[.string pnm1, .slice pAE1 pnE1 pcE1, .int .i64 pgr1, .slice pAN1 pnN1 pcN1, .slice pAC1 pnC1 pcC1, .slice pAW1 pnW1 pcW1, .bool pmt1], .int .i64 m] (by simp only [List.map_cons, List.map_nil, x54, x59]) (HGB.out _ wi (HXF.out.trans hx) hx.size) (fun e w' h => ?_)
      obtain ⟨v, rfl, hv, hx'⟩ := h
      exact ⟨_, rfl, hK _ _ hx' hv⟩
     |10, _ =>
      refine so rfl ?_
      intro fb wi hx hb hd K hK
      have y60 : IsG WF.heap.size R EB (fb.eval (.tmp 60)) wi := hd 9 60 rfl (by kernel_rfl)
      refine step_valR (wanted_all rfl) (v := fb.eval (.tmp 60)) (w' := wi) (fun ρ hρ hc => ?_) (hK _ _ (Ext.refl _) y60)
      simp [execOp, go_sem, hρ (.tmp 60)]
     |11, _ =>
      refine so rfl ?_
      intro fb wi hx hb hd K hK
      have y50 : IsG WF.heap.size R EB (fb.eval (.tmp 50)) wi := hd 10 50 rfl (by kernel_rfl)
      obtain ⟨u50, x50, hu50⟩ := y50
      refine step_valR (wanted_all rfl) (v := u50) (w' := wi) (fun ρ hρ hc => ?_) (hK _ _ (Ext.refl _) (hu50))
      have r50 := (hρ (.tmp 50)).trans x50
      simp [execOp, go_sem, r50]
     |12, _ =>
      refine so rfl ?_
      intro fb wi hx hb hd K hK
      have y50 : IsG WF.heap.size R EB (fb.eval (.tmp 50)) wi := hd 10 50 rfl (by kernel_rfl)
      obtain ⟨u50, x50, hu50⟩ := y50
      refine step_valR (wanted_all rfl) (v := .int .i64 R) (w' := wi) (fun ρ hρ hc => ?_) (hK _ _ (Ext.refl _) (rfl))
      have r50 := (hρ (.tmp 50)).trans x50
      simp [execOp, go_sem, r50]
     |13, _ =>
      refine so rfl ?_
      intro fb wi hx hb hd K hK
      have y61 : IsGe WF.heap.size R EB (fb.eval (.tmp 61)) wi := hd 11 61 rfl (by kernel_rfl)
      refine step_valR (wanted_all rfl) (v := fb.eval (.tmp 61)) (w' := wi) (fun ρ hρ hc => ?_) (hK _ _ (Ext.refl _) y61)
      simp [execOp, go_sem, hρ (.tmp 61)]
     |14, _ =>
      refine so rfl ?_
      intro fb wi hx hb hd K hK
      have y62 : Fx (.int .i64 R) (fb.eval (.tmp 62)) wi := hd 12 62 rfl (by kernel_rfl)
      refine step_valR (wanted_all rfl) (v := fb.eval (.tmp 62)) (w' := wi) (fun ρ hρ hc => ?_) (hK _ _ (Ext.refl _) y62)
      simp [execOp, go_sem, hρ (.tmp 62)]
     |n + 15, hn => exact absurd hn (by omega)
    ·skip
     simp only [frOf, putAll, List.drop_succ_cons, List.drop_zero, List.setIfInBounds_toArray, List.set_cons_succ, List.set_cons_zero, Nat.zero_add, Nat.reduceAdd]
     have t13 : IsGe WF.heap.size R EB (xs 13) w1 := hT 13 (by decide)
     have t14 : xs 14 = .int .i64 R := hT 14 (by decide)
     rw [t14]
     obtain ⟨v7, hv7⟩ : ∃ v, v = xs 13 := ⟨_, rfl⟩
     rw [← hv7] at t13 ⊢
     clear hv7 t14
     have HT7 := Lib.hid t13
     have HT5' : Hid (IsGe wR.heap.size R EA v5 w1) := IsGe.kp _ _ _ _ _ _ hx HT5.out
     have HXG := Lib.hid (HXF.out.trans hx)
     clear hT t13 hx HT5
     obtain ⟨WG, rfl⟩ : ∃ W : World, W = w1 := ⟨_, rfl⟩
     by_cases hz : R = 0
     rotate_left
     ·have hzb : (R != 0) = true := by simp [hz]
      have hzc : (R == 0) = false := by simp [hz]
      clear hz
      go_wp2_with fail
      go_roundw
      case rel => exact ⟨k + 1, by omega, by go_num, HXG.out⟩
      case measure => simp [intOf]; omega
     subst hz
     have HZ := Lib.hid (HJZ.out rfl)
     obtain ⟨AA, ca, hva, hEA, _, _⟩ := OwnE.slice' (HT5'.out.1 rfl) HZ.out.lA
     obtain ⟨AB, cb, hvb, hEB, _, _⟩ := OwnE.slice' (HT7.out.1 rfl) HZ.out.lB
     subst hva hvb
     obtain ⟨ea, oa, LA, c1, rfl, _, la1, hsA, _, _⟩ := hEA.g (k := 0) (by rw [HZ.out.lA]; omega)
     obtain ⟨eb, ob, LB, c2, rfl, _, lb1, hsB, _, _⟩ := hEB.g (k := 0) (by rw [HZ.out.lB]; omega)
     obtain ⟨la, hla⟩ : ∃ l, l = (gE EA 0).2 := ⟨_, rfl⟩
     obtain ⟨lb, hlb⟩ : ∃ l, l = (gE EB 0).2 := ⟨_, rfl⟩
     have hC := HZ.out.c; have hzA := HZ.out.zA; have hzB := HZ.out.zB; have hnn := HZ.out.n
     rw [← hla] at la1 hsA hzA
     rw [← hlb] at lb1 hsB hzB
     rw [← hla, ← hlb] at hC hnn
     obtain ⟨hc1, hc2, hc3⟩ := hC
     obtain ⟨l2, l40, _⟩ := lcheck_zero hzA
     rw [← hc1] at lb1
     obtain ⟨n1, hn1⟩ : ∃ n, n = la.length := ⟨_, rfl⟩
     rw [← hn1] at la1 lb1
     simp only [Nat.zero_mul, Nat.add_zero] at la1 lb1
     have HLA0 := Lib.hid la1; have HLB0 := Lib.hid lb1
     have HCC : Hid (∃ (F' : Bool) (Q' D1' D2' : Int), ∀ W, Ext WG W → Calls Tryz.prog 16 #[.slice LA n1 c1, .slice LB n1 c2] W (Ret (Fx (.tuple #[.agg #[.bool F', .int .i64 Q'], .agg #[.int .i64 D1', .int .i64 D2'], .bool true])) W)) := by
      show ∃ _, _
      refine ⟨cgF (cgN la lb), cgQ (cgN la lb), (cgD la lb (cgN la lb)).1, (cgD la lb (cgN la lb)).2, fun W h => ?_⟩
      have := congruent_any LA LB n1 n1 c1 c2 la lb W (hsA.ext h) (hsB.ext h) hn1.symm (hc1.symm.trans hn1.symm) (by omega)
      exact this.mono fun e w' ⟨he, hx⟩ => ⟨_, he, by rw [if_pos ⟨hc1, by omega, hc3⟩]; rfl, hx⟩
     obtain ⟨LG, hLG⟩ : ∃ L, L = lengthN la := ⟨_, rfl⟩
     have HLN1 : Hid (∀ W, Ext WG W → Calls Tryz.prog 17 #[.slice LA n1 c1] W fun e w' => e = .returned (.tuple #[.int .i64 (LG : Int), .int .i64 0]) ∧ Ext W w') := fun W h => by
      have := length_any LA n1 c1 la W (hsA.ext h) hn1.symm
      rwa [hzA, ← hLG] at this
     have HLN2 : Hid (∀ W, Ext WG W → Calls Tryz.prog 17 #[.slice LB n1 c2] W fun e w' => e = .returned (.tuple #[.int .i64 (LG : Int), .int .i64 0]) ∧ Ext W w') := fun W h => by
      have := length_any LB n1 c2 lb W (hsB.ext h) (hc1.symm.trans hn1.symm)
      rwa [hzB, ← hnn, ← hLG] at this
     have HUF : Hid (∀ W, Ext WS W → Calls Tryz.prog 18 #[.agg #[.string nm, .slice AS nM cS, .slice (some ⟨bm, om, none⟩) nM cM, .slice (some ⟨bp, oz, none⟩) 2 cP, .slice AU nU cU, .slice AK nK cK, .slice AO nO cO], .int .i64 (k : Int)] W fun e w' => (∃ A c, e = .returned (.tuple #[.slice A 0 c, .int .i64 0])) ∧ Ext W w') := fun W h => unfit_none (a := ⟨nm, AS, nM, cS, some ⟨bm, om, none⟩, nM, cM, some ⟨bp, oz, none⟩, 2, cP, AU, nU, cU, AK, nK, cK, AO, nO, cO⟩) (HS2.out.ext h).sty HNK.out HZ.out.u HZ.out.u'
     have HUM : Hid (∀ W, Ext WS W → Calls Tryz.prog 19 #[.agg #[.string nm, .slice AS nM cS, .slice (some ⟨bm, om, none⟩) nM cM, .slice (some ⟨bp, oz, none⟩) 2 cP, .slice AU nU cU, .slice AK nK cK, .slice AO nO cO], .int .i64 (k : Int)] W fun e w' => (∃ A c, e = .returned (.tuple #[.slice A 0 c, .int .i64 0])) ∧ Ext W w') := fun W h => unm_none (a := ⟨nm, AS, nM, cS, some ⟨bm, om, none⟩, nM, cM, some ⟨bp, oz, none⟩, 2, cP, AU, nU, cU, AK, nK, cK, AO, nO, cO⟩) (HS2.out.ext h).sty HNK.out HZ.out.v HZ.out.v'
     obtain ⟨F', Q', D1', D2', hCC⟩ := HCC.out
     have HCC' := Lib.hid hCC
     clear HCC hCC la1 lb1 hsA hsB hzA hzB hnn hc1 hc2 hc3 l2 l40 hn1 hLG hla hlb hEA hEB HT5' HT7 HJZ HGA HGB
     go_upto_region 16 with fail
     refine region_slotsQ (l := 17) (N := 157) (W0 := WG) WG.heap.size [83, 84, 85, 86, 87, 88, 89, 90, 91, 82, 92, 93, 94, 9, 10, 1172, 1173] [Fx (.slice (some ⟨ea, oa, none⟩) 2 ca), Fx (.pointer (some ⟨ea, oa, none⟩)), Fx (.pointer (some ⟨ea, oa + 1, none⟩)), Fx (.slice LA n1 c1), Fx (.slice (some ⟨eb, ob, none⟩) 2 cb), Fx (.pointer (some ⟨eb, ob, none⟩)), Fx (.pointer (some ⟨eb, ob + 1, none⟩)), Fx (.slice LB n1 c2), Fx (.tuple #[.agg #[.bool F', .int .i64 Q'], .agg #[.int .i64 D1', .int .i64 D2'], .bool true]), Fx (.tuple #[.agg #[.bool F', .int .i64 Q'], .agg #[.int .i64 D1', .int .i64 D2'], .bool true]), Fx (.agg #[.bool F', .int .i64 Q']), Fx (.agg #[.int .i64 D1', .int .i64 D2']), Fx (.bool true), IsB 31 WG.heap.size 2, IsB 49 WG.heap.size 2, AnyQ, AnyQ] (by kernel_rfl) (by kernel_rfl) (by kernel_rfl) (by kernel_rfl) (Qr.refl _ _) ?kp (fun i hi => ?_) (fun xs w1 hR hT o ho b hb1 hv K hK => ?_)
     case kp => exact ⟨Fx.kpq _ _, Fx.kpq _ _, Fx.kpq _ _, Fx.kpq _ _, Fx.kpq _ _, Fx.kpq _ _, Fx.kpq _ _, Fx.kpq _ _, Fx.kpq _ _, Fx.kpq _ _, Fx.kpq _ _, Fx.kpq _ _, Fx.kpq _ _, IsB.kpq _ _ _, IsB.kpq _ _ _, AnyQ.kpq _, AnyQ.kpq _, trivial⟩
     ·match i, hi with
      |0, _ =>
       refine so rfl ?_
       intro fb wi hR hb hd K hK
       have hx := hR.out (Ext.refl _) (Nat.le_refl _)
       have x5 : fb.eval (.tmp 5) = .slice (some ⟨ea, oa, none⟩) 2 ca := hb 5 (by kernel_rfl)
       refine step_valR (wanted_all rfl) (v := .slice (some ⟨ea, oa, none⟩) 2 ca) (w' := wi) (fun ρ hρ hc => ?_) (hK _ _ ((Ext.refl _).qr _) (rfl))
       have r5 := (hρ (.tmp 5)).trans x5
       simp [execOp, go_sem, r5]
      |1, _ =>
       refine so rfl ?_
       intro fb wi hR hb hd K hK
       have hx := hR.out (Ext.refl _) (Nat.le_refl _)
       have x83 : fb.eval (.tmp 83) = .slice (some ⟨ea, oa, none⟩) 2 ca := hd 0 83 rfl (by omega) (by kernel_rfl)
       refine step_valR (wanted_all rfl) (v := .pointer (some ⟨ea, oa, none⟩)) (w' := wi) (fun ρ hρ hc => ?_) (hK _ _ ((Ext.refl _).qr _) (rfl))
       have r83 := (hρ (.tmp 83)).trans x83
       simp [execOp, go_sem, hc, r83]
      |2, _ =>
       refine so rfl ?_
       intro fb wi hR hb hd K hK
       have hx := hR.out (Ext.refl _) (Nat.le_refl _)
       have x84 : fb.eval (.tmp 84) = .pointer (some ⟨ea, oa, none⟩) := hd 1 84 rfl (by omega) (by kernel_rfl)
       refine step_valR (wanted_all rfl) (v := .pointer (some ⟨ea, oa + 1, none⟩)) (w' := wi) (fun ρ hρ hc => ?_) (hK _ _ ((Ext.refl _).qr _) (rfl))
       have r84 := (hρ (.tmp 84)).trans x84
       simp [execOp, go_sem, r84]
      |3, _ =>
       refine so rfl ?_
       intro fb wi hR hb hd K hK
       have hx := hR.out (Ext.refl _) (Nat.le_refl _)
       have x85 : fb.eval (.tmp 85) = .pointer (some ⟨ea, oa + 1, none⟩) := hd 2 85 rfl (by omega) (by kernel_rfl)
       have v0 := hx.cell HLA0.out
       refine step_valR (wanted_all rfl) (v := .slice LA n1 c1) (w' := wi) (fun ρ hρ hc => ?_) (hK _ _ ((Ext.refl _).qr _) (rfl))
       have r85 := (hρ (.tmp 85)).trans x85
       simp [execOp, go_sem, r85, v0]
      |4, _ =>
       refine so rfl ?_
       intro fb wi hR hb hd K hK
       have hx := hR.out (Ext.refl _) (Nat.le_refl _)
       have x7 : fb.eval (.tmp 7) = .slice (some ⟨eb, ob, none⟩) 2 cb := hb 7 (by kernel_rfl)
       refine step_valR (wanted_all rfl) (v := .slice (some ⟨eb, ob, none⟩) 2 cb) (w' := wi) (fun ρ hρ hc => ?_) (hK _ _ ((Ext.refl _).qr _) (rfl))
       have r7 := (hρ (.tmp 7)).trans x7
       simp [execOp, go_sem, r7]
      |5, _ =>
       refine so rfl ?_
       intro fb wi hR hb hd K hK
       have hx := hR.out (Ext.refl _) (Nat.le_refl _)
       have x87 : fb.eval (.tmp 87) = .slice (some ⟨eb, ob, none⟩) 2 cb := hd 4 87 rfl (by omega) (by kernel_rfl)
       refine step_valR (wanted_all rfl) (v := .pointer (some ⟨eb, ob, none⟩)) (w' := wi) (fun ρ hρ hc => ?_) (hK _ _ ((Ext.refl _).qr _) (rfl))
       have r87 := (hρ (.tmp 87)).trans x87
       simp [execOp, go_sem, hc, r87]
      |6, _ =>
       refine so rfl ?_
       intro fb wi hR hb hd K hK
       have hx := hR.out (Ext.refl _) (Nat.le_refl _)
       have x88 : fb.eval (.tmp 88) = .pointer (some ⟨eb, ob, none⟩) := hd 5 88 rfl (by omega) (by kernel_rfl)
       refine step_valR (wanted_all rfl) (v := .pointer (some ⟨eb, ob + 1, none⟩)) (w' := wi) (fun ρ hρ hc => ?_) (hK _ _ ((Ext.refl _).qr _) (rfl))
       have r88 := (hρ (.tmp 88)).trans x88
       simp [execOp, go_sem, r88]
      |7, _ =>
       refine so rfl ?_
       intro fb wi hR hb hd K hK
       have hx := hR.out (Ext.refl _) (Nat.le_refl _)
       have x89 : fb.eval (.tmp 89) = .pointer (some ⟨eb, ob + 1, none⟩) := hd 6 89 rfl (by omega) (by kernel_rfl)
       have v0 := hx.cell HLB0.out
       refine step_valR (wanted_all rfl) (v := .slice LB n1 c2) (w' := wi) (fun ρ hρ hc => ?_) (hK _ _ ((Ext.refl _).qr _) (rfl))
       have r89 := (hρ (.tmp 89)).trans x89
       simp [execOp, go_sem, r89, v0]
      |8, _ =>
       refine so rfl ?_
       intro fb wi hR hb hd K hK
       have hx := hR.out (Ext.refl _) (Nat.le_refl _)
       have x86 : fb.eval (.tmp 86) = .slice LA n1 c1 := hd 3 86 rfl (by omega) (by kernel_rfl)
       have x90 : fb.eval (.tmp 90) = .slice LB n1 c2 := hd 7 90 rfl (by omega) (by kernel_rfl)
       refine step_callW (wanted_all rfl) 16 [.tmp 86, .tmp 90] #[38, 38] rfl _ Tryz.func16 rfl (by decide +kernel) [.slice LA n1 c1, .slice LB n1 c2] (by simp only [List.map_cons, List.map_nil, x86, x90]) (HCC'.out wi hx) (fun e w' h => ?_)
       obtain ⟨v, rfl, hv, hx'⟩ := h
       exact ⟨_, rfl, hK _ _ (hx'.qr _) hv⟩
      |9, _ =>
       refine so rfl ?_
       intro fb wi hR hb hd K hK
       have hx := hR.out (Ext.refl _) (Nat.le_refl _)
       have y91 : Fx (.tuple #[.agg #[.bool F', .int .i64 Q'], .agg #[.int .i64 D1', .int .i64 D2'], .bool true]) (fb.eval (.tmp 91)) wi := hd 8 91 rfl (by omega) (by kernel_rfl)
       have x91 : fb.eval (.tmp 91) = .tuple #[.agg #[.bool F', .int .i64 Q'], .agg #[.int .i64 D1', .int .i64 D2'], .bool true] := y91
       refine step_valR (wanted_all rfl) (v := .tuple #[.agg #[.bool F', .int .i64 Q'], .agg #[.int .i64 D1', .int .i64 D2'], .bool true]) (w' := wi) (fun ρ hρ hc => ?_) (hK _ _ ((Ext.refl _).qr _) (rfl))
       have r91 := (hρ (.tmp 91)).trans x91
       simp [execOp, go_sem, r91]
      |10, _ =>
       refine so rfl ?_
       intro fb wi hR hb hd K hK
       have hx := hR.out (Ext.refl _) (Nat.le_refl _)
       have x82 : fb.eval (.tmp 82) = .tuple #[.agg #[.bool F', .int .i64 Q'], .agg #[.int .i64 D1', .int .i64 D2'], .bool true] := hd 9 82 rfl (by omega) (by kernel_rfl)
       refine step_valR (wanted_all rfl) (v := .agg #[.bool F', .int .i64 Q']) (w' := wi) (fun ρ hρ hc => ?_) (hK _ _ ((Ext.refl _).qr _) (rfl))
       have r82 := (hρ (.tmp 82)).trans x82
       simp [execOp, go_sem, r82]
      |11, _ =>
       refine so rfl ?_
       intro fb wi hR hb hd K hK
       have hx := hR.out (Ext.refl _) (Nat.le_refl _)
       have x82 : fb.eval (.tmp 82) = .tuple #[.agg #[.bool F', .int .i64 Q'], .agg #[.int .i64 D1', .int .i64 D2'], .bool true] := hd 9 82 rfl (by omega) (by kernel_rfl)
       refine step_valR (wanted_all rfl) (v := .agg #[.int .i64 D1', .int .i64 D2']) (w' := wi) (fun ρ hρ hc => ?_) (hK _ _ ((Ext.refl _).qr _) (rfl))
       have r82 := (hρ (.tmp 82)).trans x82
       simp [execOp, go_sem, r82]
      |12, _ =>
       refine so rfl ?_
       intro fb wi hR hb hd K hK
       have hx := hR.out (Ext.refl _) (Nat.le_refl _)
       have x82 : fb.eval (.tmp 82) = .tuple #[.agg #[.bool F', .int .i64 Q'], .agg #[.int .i64 D1', .int .i64 D2'], .bool true] := hd 9 82 rfl (by omega) (by kernel_rfl)
       refine step_valR (wanted_all rfl) (v := .bool true) (w' := wi) (fun ρ hρ hc => ?_) (hK _ _ ((Ext.refl _).qr _) (rfl))
       have r82 := (hρ (.tmp 82)).trans x82
       simp [execOp, go_sem, r82]
      |13, _ =>
       refine so rfl ?_
       intro fb wi hR hb hd K hK
       have hx := hR.out (Ext.refl _) (Nat.le_refl _)
       refine step_valR (wanted_all rfl) (v := .pointer (some ⟨wi.heap.size, 0, none⟩)) (w' := wi.alloc (.cells #[.bool false, .int .i64 0] 31)) (fun ρ hρ hc => ?_) (hK _ _ (((Ext.refl _).alloc _).qr _) (⟨wi.heap.size, _, rfl, Ext.size hx, Blk.new' rfl, rfl⟩))
       simp [execOp, go_sem]
      |14, _ =>
       refine so rfl ?_
       intro fb wi hR hb hd K hK
       have hx := hR.out (Ext.refl _) (Nat.le_refl _)
       refine step_valR (wanted_all rfl) (v := .pointer (some ⟨wi.heap.size, 0, none⟩)) (w' := wi.alloc (.cells #[.int .i64 0, .int .i64 0] 49)) (fun ρ hρ hc => ?_) (hK _ _ (((Ext.refl _).alloc _).qr _) (⟨wi.heap.size, _, rfl, Ext.size hx, Blk.new' rfl, rfl⟩))
       simp [execOp, go_sem]
      |15, _ =>
       refine so rfl ?_
       intro fb wi hR hb hd K hK
       have hx := hR.out (Ext.refl _) (Nat.le_refl _)
       have y9 : IsB 31 WG.heap.size 2 (fb.eval (.tmp 9)) wi := hd 13 9 rfl (by omega) (by kernel_rfl)
       have x92 : fb.eval (.tmp 92) = .agg #[.bool F', .int .i64 Q'] := hd 10 92 rfl (by omega) (by kernel_rfl)
       obtain ⟨g, cs, x9, hg, hbl, hcl⟩ := y9
       match cs, hcl with
       |[z0, z1], _ =>
       obtain ⟨e0, e1⟩ := blk2 hbl
       have f0 := hbl.frozen 0; have f1 := hbl.frozen 1
       refine step_skipR (wanted_all rfl) (w' := (wi.setCell ⟨g, 0, none⟩ (.bool F')).setCell ⟨g, 1, none⟩ (.int .i64 Q')) (fun ρ hρ hc => ?_) (hK _ _ (((Qr.refl _ _).set hg 0 _).set hg 1 _) trivial)
       have r9 := (hρ (.tmp 9)).trans x9
       have r92 := (hρ (.tmp 92)).trans x92
       simp [execOp, go_sem, r9, r92, e0, e1, f0, f1]
      |16, _ =>
       refine so rfl ?_
       intro fb wi hR hb hd K hK
       have hx := hR.out (Ext.refl _) (Nat.le_refl _)
       have y10 : IsB 49 WG.heap.size 2 (fb.eval (.tmp 10)) wi := hd 14 10 rfl (by omega) (by kernel_rfl)
       have x93 : fb.eval (.tmp 93) = .agg #[.int .i64 D1', .int .i64 D2'] := hd 11 93 rfl (by omega) (by kernel_rfl)
       obtain ⟨g, cs, x10, hg, hbl, hcl⟩ := y10
       match cs, hcl with
       |[z0, z1], _ =>
       obtain ⟨e0, e1⟩ := blk2 hbl
       have f0 := hbl.frozen 0; have f1 := hbl.frozen 1
       refine step_skipR (wanted_all rfl) (w' := (wi.setCell ⟨g, 0, none⟩ (.int .i64 D1')).setCell ⟨g, 1, none⟩ (.int .i64 D2')) (fun ρ hρ hc => ?_) (hK _ _ (((Qr.refl _ _).set hg 0 _).set hg 1 _) trivial)
       have r10 := (hρ (.tmp 10)).trans x10
       have r93 := (hρ (.tmp 93)).trans x93
       simp [execOp, go_sem, r10, r93, e0, e1, f0, f1]
      |n + 17, hn => exact absurd hn (by omega)
     ·simp only [List.getElem?_toArray, List.getElem?_cons_zero, List.getElem?_cons_succ, Option.some.injEq] at ho
      subst ho
      have e1 : b.eval (.tmp 94) = .bool true := (hv 12 94 rfl (by omega)).trans (hT 12 (by decide))
      refine step_valR (wanted_all rfl) (v := .bool true) (w' := w1) (fun ρ hρ hc => ?_) ?_
      ·have re1 := (hρ (.tmp 94)).trans e1
       simp [execOp, go_sem, re1]
      refine hK _ _ ?_
      have HXH := Lib.hid (hR.out (Ext.refl _) (Nat.le_refl _))
      subst hb1
      clear hK K hv e1 hT hR
      simp only [Act.put, frOf, putAll, List.setIfInBounds_toArray, List.set_cons_succ, List.set_cons_zero, List.set_nil, Nat.zero_add, Nat.reduceAdd]
      obtain ⟨WH, rfl⟩ : ∃ W : World, W = w1 := ⟨_, rfl⟩
      have q0 := HXH.out.cell HLA0.out
      go_wp2_with fail
      refine (HLN1.out _ HXH.out).mono ?_
      rintro e w3 ⟨rfl, he3⟩
      have HX3 := Lib.hid (HXH.out.trans he3)
      clear he3 q0
      have q1 := HX3.out.cell HLB0.out
      go_wp2_with fail
      refine (HLN2.out _ HX3.out).mono ?_
      rintro e w4 ⟨rfl, he4⟩
      have HX4 := Lib.hid (HXG.out.trans (HX3.out.trans he4))
      clear he4 q1
      obtain ⟨s0, s1, s2, s3, s4, s5, s6⟩ := blk7 (HBS.out.ext HX4.out)
      go_wp2_with fail
      refine (HUF.out _ HX4.out).mono ?_
      rintro e w5 ⟨⟨A5, c5, rfl⟩, he5⟩
      have HX5 := Lib.hid (HX4.out.trans he5)
      clear he5 s0 s1 s2 s3 s4 s5 s6
      obtain ⟨s0, s1, s2, s3, s4, s5, s6⟩ := blk7 (HBS.out.ext HX5.out)
      go_wp2_with fail
      refine (HUM.out _ HX5.out).mono ?_
      rintro e w6 ⟨⟨A6, c6, rfl⟩, he6⟩
      have HX6 := Lib.hid (HX5.out.trans he6)
      clear he6 s0 s1 s2 s3 s4 s5 s6
      have hLL : ((LG : Int) != (LG : Int)) = false := by simp
      go_wp2_with fail
      go_roundw
      case rel => exact ⟨k + 1, by omega, by go_num, HX6.out⟩
      case measure => simp [intOf]; omega
end Go.Proofs.YtfegbaokcbjllaaGreat
namespace Go.Proofs.YtfegbaokcbjllaaGreat
open Go.ChangeShapes Go.WideShapes Go.ChangeAt Go.RowKit Go.Deep Go.Joins
set_option maxRecDepth 100000 in
theorem topSeams_lifted (os : Os) (started : os.Started) (H : Type) (enc : TypeId × Value → H) :
  ReturnsInHanded {} Tryz.checked os 4 .any (Rows.topSeamsSpec.pre6 enc Tryz.prog Tryz.f4 Rows.topSeamsRow.domain false) (Rows.topSeamsSpec.post enc Tryz.prog Tryz.f4 false true false false) := by
 refine returnsInHanded_of_change (C := Tryz.checked) Tryz.own started (by kernel_rfl) Tryz.func4
  (ChangeSpec.witness6 (enc := enc) (C := Tryz.checked) false ⟨#[], #[.agg #[.slice none 0 0, .int .i64 0, .int .i64 0, .int .i64 0, .int .i64 0, .bool false, .int .i64 0, .int .i64 0, .int .i64 0, .int .i64 0, .int .i64 0, .slice none 0 0, .slice none 0 0]], []⟩ 8 (by kernel_rfl) (by kernel_rfl) (by kernel_rfl) (by kernel_rfl)) ?_
 intro W base args ds gs before hval0 hW hcnd _
 have hval : ∀ (j : Nat) t v, Tryz.f4.params[j]? = some t → args[j]? = some v → Value.okWide Tryz.prog W .any base t v := hval0
 have hW' := hW
 obtain ⟨p, q, hA0, hV, rfl, hfz, hnd⟩ := hW
 have hA : DataW.TrodAll enc Tryz.prog W 0 (fun _ => true) true Tryz.f4.params.toList args.toList ds p := hA0
 rw [Tryz.params4] at hA hval
 obtain ⟨v0, vs0, d0, ds0, p0, q0, hargs, rfl, rfl, h0, r0⟩ := trodAll_cons hA
 obtain ⟨rfl, rfl, rfl⟩ := trodAll_nil r0
 obtain rfl : args = #[v0] := by cases args; simp_all
 obtain ⟨rfl, rfl⟩ := trodVars_none hV
 have k0 := h0
 have lt0 : ∀ x ∈ p0, x.block < W.heap.size := by obtain ⟨m, hm⟩ := k0; exact DataW.trod_lt m _ _ _ hm
 obtain ⟨a0, s0, hv0, hS0, wS0⟩ := joined_open (hval 0 51 v0 rfl rfl) h0
 subst hv0
 clear hA0 hval0
 refine (topSeams_any a0 s0 W hS0 wS0).mono fun e W' ⟨he, bel⟩ => ?_
 subst he
 exact ⟨_, rfl, _, _, _, [], _, [], hW', trodAll_mk1 (shut_bool Tryz.underlying4 _), (trodAll_cons_mk (Below.trod Tryz.laidOut (by kernel_rfl) (of_decide_eq_true (by kernel_rfl)) k0 bel lt0) trodAll_mk0), rfl, Below.frame bel _, fun h => by cases h⟩
theorem topSeams_holds : Rows.TopSeamsSaid :=
 OpenClaim.holds_of_wide 4 Tryz.f4 rfl rfl rfl rfl rfl rfl rfl ⟨rfl, rfl, rfl, rfl, rfl⟩ rfl rfl rfl rfl rfl (by kernel_rfl) Tryz.func4 (by kernel_rfl)
  (of_decide_eq_true (by kernel_rfl)) (by unfold Func.isWrapper; first | (rw [if_pos (by decide +kernel)]; kernel_rfl) | (rw [if_neg (by decide +kernel)]; exact ⟨rfl, rfl⟩))
  (fun os started H enc _ => topSeams_lifted os started H enc)
end Go.Proofs.YtfegbaokcbjllaaGreat
