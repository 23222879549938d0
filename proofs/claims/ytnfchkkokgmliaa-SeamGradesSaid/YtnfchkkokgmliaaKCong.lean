/- seam.Congruent -/
import Derived.Deep.CutRange
import Derived.Deep.RegionHeld3
import Derived.RegionTactic
import Derived.Test.YtnfchkkokgmliaaKTakes
namespace Go.Proofs.Ytnfchkkokgmliaa
open Go.RowKit
def cgF (i : Nat) : Bool := decide (4 ≤ i)
def cgQ (i : Nat) : Int := ((i % 4 : Nat) : Int)
def cgI (a : List Spot) (i : Nat) : Spot := applyT (cgF i) (cgQ i) (gS a 0)
def cgD (a b : List Spot) (i : Nat) : Spot := (wrap64 ((gS b 0).1 - (cgI a i).1), wrap64 ((gS b 0).2 - (cgI a i).2))
def cgB (a b : List Spot) (i : Nat) : Bool := allB (tkF (cgF i) (cgQ i) (cgD a b i) a b) a.length
/- the first of the eight turns that takes a to b -/
def cgN (a b : List Spot) : Nat := ((List.range 8).findIdx? (cgB a b)).getD 8
theorem cgN_at {a b : List Spot} {i : Nat} (hi : i < 8) (h0 : ∀ j, j < i → cgB a b j = false) (h : cgB a b i = true) : cgN a b = i := by
  unfold cgN
  have : (List.range 8).findIdx? (cgB a b) = some i := by
    rw [List.findIdx?_eq_some_iff_getElem]
    refine ⟨by simpa using hi, by simpa using h, fun j hj => ?_⟩
    simpa using h0 j hj
  rw [this]; rfl
theorem cgN_none {a b : List Spot} (h0 : ∀ j, j < 8 → cgB a b j = false) : cgN a b = 8 := by
  unfold cgN
  have : (List.range 8).findIdx? (cgB a b) = none := by
    rw [List.findIdx?_eq_none_iff]
    intro x hx
    exact h0 x (List.mem_range.1 hx)
  rw [this]; rfl
def RetC (w : World) (a b : List Spot) (e : Ending) (w' : World) : Prop :=
  (e = .returned (if a.length = b.length ∧ a.length ≠ 0 ∧ cgN a b < 8 then .tuple #[TV (cgF (cgN a b)) (cgQ (cgN a b)), SV (cgD a b (cgN a b)), .bool true] else .tuple #[TV false 0, SV (0, 0), .bool false])) ∧ Ext w w'
theorem retC_no {w w' : World} {a b : List Spot} (h : ¬ (a.length = b.length ∧ a.length ≠ 0 ∧ cgN a b < 8)) (he : Ext w w') : RetC w a b (.returned (.tuple #[TV false 0, SV (0, 0), .bool false])) w' := ⟨by rw [if_neg h], he⟩
theorem bool_cells {w : World} {g : Nat} (h : Blk 4 w g [.bool false, .bool true]) {p : Nat} (hp : p < 2) : w.cell? ⟨g, p, none⟩ = some (.bool (decide (p = 1))) := by
  obtain ⟨h0, h1⟩ := blk2 h
  obtain rfl | rfl : p = 0 ∨ p = 1 := by omega
  · exact h0
  · exact h1
set_option maxRecDepth 100000 in
set_option maxHeartbeats 3200000 in
theorem congruent_any (A B : Option Addr) (n m ca cb : Nat) (a b : List Spot) (w : World) (ha : SpotsAt w A a) (hb : SpotsAt w B b) (hla : a.length = n) (hlb : b.length = m) (hn : n ≤ 1000) :
    Calls Try.prog 7 #[.slice A n ca, .slice B m cb] w (RetC w a b) := by
  have HA := Lib.hid ha; have HB := Lib.hid hb; have HLA := Lib.hid hla; have HLB := Lib.hid hlb; clear ha hb hla hlb
  by_cases hnm : n = m
  rotate_left
  · have HN : Hid (¬ (a.length = b.length ∧ a.length ≠ 0 ∧ cgN a b < 8)) := by show ¬ _; rw [HLA.out, HLB.out]; exact fun h => hnm h.1
    have hnb : ((n : Int) != m) = true := by simp; omega
    go_enter Try.func7, Try.ntmps7
    go_wp2_with fail
    refine bodyPost_ret (v := .tuple #[TV false 0, SV (0, 0), .bool false]) (by simp [results, Try.results7, go_sem]) rfl (retC_no HN.out ?_)
    exact ((Ext.refl _).alloc _).alloc _
  subst hnm
  by_cases hn0 : n = 0
  · have HN : Hid (¬ (a.length = b.length ∧ a.length ≠ 0 ∧ cgN a b < 8)) := by show ¬ _; rw [HLA.out]; exact fun h => h.2.1 hn0
    have hnb : ((n : Int) == 0) = true := by simp; omega
    have hnb' : ((n : Int) != n) = false := by simp
    go_enter Try.func7, Try.ntmps7
    go_wp2_with fail
    refine bodyPost_ret (v := .tuple #[TV false 0, SV (0, 0), .bool false]) (by simp [results, Try.results7, go_sem]) rfl (retC_no HN.out ?_)
    exact ((Ext.refl _).alloc _).alloc _
  have hnb : ((n : Int) == 0) = false := by simp; omega
  have hnb' : ((n : Int) != n) = false := by simp
  go_enter Try.func7, Try.ntmps7
  go_wp2_with fail
  clear hnb hnb'
  refine wp_at fun W0 hW0 => ?_
  have hR : Blk 36 W0 w.heap.size [.bool false, .int .i64 0] := by rw [hW0]; exact ((Blk.new' rfl).ext ((Ext.refl _).alloc _)).ext ((Ext.refl _).alloc _)
  have hR2 : Blk 38 W0 (w.heap.size + 1) [.int .i64 0, .int .i64 0] := by rw [hW0]; exact (Blk.new' (by simp)).ext ((Ext.refl _).alloc _)
  have hL : Blk 4 W0 (w.heap.size + 1 + 1) [.bool false, .bool true] := by rw [hW0]; exact Blk.new' (by simp)
  have hx0 : Ext w W0 := by rw [hW0]; exact (((Ext.refl _).alloc _).alloc _).alloc _
  have HR := Lib.hid hR; have HR2 := Lib.hid hR2; have HLb := Lib.hid hL; have HX0 := Lib.hid hx0; clear hW0 hR hR2 hL hx0
  go_loopw [27] (fun i wr => ∃ p : Nat, p ≤ 2 ∧ i = .int .i64 p ∧ (∀ j, j < 4 * p → cgB a b j = false) ∧ Ext W0 wr) (fun i _ => 2 - (intOf i).toNat)
  case atStart => exact ⟨0, by omega, rfl, fun j hj => absurd hj (by omega), Ext.refl _⟩
  case round =>
    obtain ⟨p, hp, rfl, hall, hx⟩ := hrel
    have HALL := Lib.hid hall; have HX := Lib.hid hx; clear hall hx
    by_cases hlt : p < 2
    · have b0 := bool_cells (HLb.out.ext HX.out) hlt
      obtain ⟨f0, hf0⟩ : ∃ f0, f0 = decide (p = 1) := ⟨_, rfl⟩
      rw [← hf0] at b0
      have HF0 := Lib.hid hf0; clear hf0
      have hlt' : (p : Int) < 2 := by omega
      go_wp2_with fail
      clear b0
      go_loopw [31] (fun i wq => ∃ r : Nat, r ≤ 4 ∧ i = .int .i64 r ∧ (∀ j, j < 4 * p + r → cgB a b j = false) ∧ Ext W0 wq) (fun i _ => 4 - (intOf i).toNat)
      case atStart => exact ⟨0, by omega, rfl, HALL.out, HX.out⟩
      case round =>
        clear HX
        obtain ⟨wq, rfl⟩ : ∃ wq : World, wq = wr := ⟨_, rfl⟩
        obtain ⟨r, hr, rfl, hall, hx⟩ := hrel
        have HAL := Lib.hid hall; have HX := Lib.hid hx; clear hall hx HALL
        by_cases hr4 : r < 4
        · have hr4' : (r : Int) < 4 := by omega
          have HIF : Hid (f0 = cgF (4 * p + r)) := by
            show f0 = _
            rw [HF0.out]; unfold cgF
            by_cases h1 : p = 1
            · rw [decide_eq_true h1, decide_eq_true (by omega)]
            · rw [decide_eq_false h1, decide_eq_false (by omega)]
          have HIQ : Hid ((r : Int) = cgQ (4 * p + r)) := by show (r : Int) = _; unfold cgQ; omega
          go_upto_region 10 with fail
          refine wp_at fun W1 hW1 => ?_
          have hx1 : Ext wq W1 := by rw [hW1]; exact (Ext.refl _).alloc _
          have hTb : Blk 36 W1 wq.heap.size [.bool f0, .int .i64 (r : Int)] := by rw [hW1]; exact Blk.new' rfl
          have HX1 := Lib.hid (HX.out.trans hx1); have HTB := Lib.hid hTb; clear hW1 hx1 hTb
          obtain ⟨tb, htb⟩ : ∃ tb, tb = wq.heap.size := ⟨_, rfl⟩
          rw [← htb] at HTB ⊢
          have htl : W0.heap.size ≤ tb := by rw [htb]; exact HX.out.size
          clear htb
          obtain ⟨ba, oa, hA, c0, c1⟩ := (HA.out.ext (HX0.out.trans HX1.out)).g (k := 0) (by rw [HLA.out]; omega)
          subst hA
          simp only [Nat.zero_mul, Nat.add_zero] at c0 c1
          obtain ⟨I, hI⟩ : ∃ I, I = applyT f0 (r : Int) (gS a 0) := ⟨_, rfl⟩
          have HI := Lib.hid hI; clear hI
          have hnp : 0 < n := by omega
          go_cut [11] from 37 to 41 (fun pt wc => ∃ fb, pt = .pointer (some ⟨fb, 0, none⟩) ∧ Blk 38 wc fb [.int .i64 I.1, .int .i64 I.2] ∧ Ext W1 wc)
          case first =>
            obtain ⟨t0, t1⟩ := blk2 HTB.out
            have keep : ∀ W2 : World, Ext W1 W2 → (Ext W1 W2 ∧ W2.cell? ⟨tb, 0, none⟩ = some (.bool f0) ∧ W2.cell? ⟨tb, 1, none⟩ = some (.int .i64 (r : Int)) ∧ W2.cell? ⟨ba, oa, none⟩ = some (.int .i64 (gS a 0).1) ∧ W2.cell? ⟨ba, oa + 1, none⟩ = some (.int .i64 (gS a 0).2)) := fun W2 hx => ⟨hx, hx.cell t0, hx.cell t1, hx.cell c0, hx.cell c1⟩
            have KEEP := Lib.hid keep; clear keep t0 t1 c0 c1
            have HAP : Hid (∀ W : World, Calls Try.prog 8 #[TV f0 (r : Int), SV (gS a 0)] W fun e w' => e = .returned (SV I) ∧ Ext W w') := fun W => by rw [HI.out]; exact apply_any f0 (r : Int) (gS a 0) W
            go_region_held3 (fun W => Ext W1 W ∧ W.cell? ⟨tb, 0, none⟩ = some (.bool f0) ∧ W.cell? ⟨tb, 1, none⟩ = some (.int .i64 (r : Int)) ∧ W.cell? ⟨ba, oa, none⟩ = some (.int .i64 (gS a 0).1) ∧ W.cell? ⟨ba, oa + 1, none⟩ = some (.int .i64 (gS a 0).2))
              (first | (with_reducible exact KEEP.out _ (Ext.setCell (Ext.setCell hx2 (p := ⟨W1.heap.size, 0, none⟩) (Nat.le_refl _) _) (p := ⟨W1.heap.size, 1, none⟩) (Nat.le_refl _) _)) | (with_reducible assumption) | (with_reducible exact KEEP.out _ (Ext.drew (Ext.refl _))) | (with_reducible exact KEEP.out _ (Ext.drew (Ext.alloc (Ext.refl _) _))) | (with_reducible exact KEEP.out _ hx2) | (with_reducible exact KEEP.out _ (Ext.alloc hx2 _)) | fail)
              (first
                | (go_at_call 8; (with_reducible refine (HAP.out W1.drew).mono ?_); rintro e w2 ⟨rfl, he2⟩; have hx2 : Ext W1 w2 := (Ext.drew (Ext.refl _)).trans he2)
                | (go_at_call 8; (with_reducible refine (HAP.out (W1.alloc (.cells #[.int .i64 0, .int .i64 0] 38)).drew).mono ?_); rintro e w2 ⟨rfl, he2⟩; have hx2 : Ext W1 w2 := (Ext.drew (Ext.alloc (Ext.refl _) _)).trans he2; have hB1 : Blk 38 w2 W1.heap.size [.int .i64 0, .int .i64 0] := Blk.ext (Blk.ext (Blk.new' rfl) (Ext.drew (Ext.refl _))) he2; obtain ⟨s0, s1⟩ := blk2 hB1; have e0 := hB1.frozen 0; have e1 := hB1.frozen 1; have HB1 := Lib.hid hB1; clear hB1)
                | fail)
            all_goals
              go_wp2_with fail
              go_meet
            case rel => exact ⟨w2.heap.size, rfl, Blk.new' rfl, hx2.alloc _⟩
            case rel => exact ⟨W1.heap.size, rfl, (HB1.out.set 0 (.int .i64 I.1)).set 1 (.int .i64 I.2), (hx2.setCell (Nat.le_refl _) _).setCell (Nat.le_refl _) _⟩
          case rest =>
            obtain ⟨fb, hfb, hBf, hxc⟩ := hcut
            subst hfb
            clear c0 c1
            have HBF := Lib.hid hBf; have HXz := Lib.hid (HX1.out.trans hxc); have HTz := Lib.hid (HTB.out.ext hxc); clear hBf hxc
            obtain ⟨wz, rfl⟩ : ∃ wz : World, wz = wc := ⟨_, rfl⟩
            obtain ⟨bb, ob, hB, d0, d1⟩ := (HB.out.ext (HX0.out.trans HXz.out)).g (k := 0) (by rw [HLB.out]; omega)
            subst hB
            simp only [Nat.zero_mul, Nat.add_zero] at d0 d1
            obtain ⟨f1, f2⟩ := blk2 HBF.out
            obtain ⟨D1, hD1⟩ : ∃ D1, IntKind.i64.wrap ((gS b 0).1 - I.1) = D1 := ⟨_, rfl⟩
            obtain ⟨D2, hD2⟩ : ∃ D2, IntKind.i64.wrap ((gS b 0).2 - I.2) = D2 := ⟨_, rfl⟩
            have HDD : Hid ((D1, D2) = cgD a b (4 * p + r)) := by
              show _ = _
              unfold cgD cgI
              rw [← HIF.out, ← HIQ.out, ← HI.out, ← hD1, ← hD2, IntWalk.i64_left, IntWalk.i64_left]
            go_upto_region 11 with fail
            go_cut [12] from 42 to 56 (fun pt wc => ∃ db, pt = .pointer (some ⟨db, 0, none⟩) ∧ Blk 38 wc db [.int .i64 D1, .int .i64 D2] ∧ Ext wz wc ∧ wz.heap.size ≤ db)
            case first =>
              have keep : ∀ W2 : World, Ext wz W2 → (Ext wz W2 ∧ W2.cell? ⟨fb, 0, none⟩ = some (.int .i64 I.1) ∧ W2.cell? ⟨fb, 1, none⟩ = some (.int .i64 I.2) ∧ W2.cell? ⟨bb, ob, none⟩ = some (.int .i64 (gS b 0).1) ∧ W2.cell? ⟨bb, ob + 1, none⟩ = some (.int .i64 (gS b 0).2)) := fun W2 hx => ⟨hx, hx.cell f1, hx.cell f2, hx.cell d0, hx.cell d1⟩
              have KEEP := Lib.hid keep; clear keep f1 f2 d0 d1
              go_region_held3 (fun W => Ext wz W ∧ W.cell? ⟨fb, 0, none⟩ = some (.int .i64 I.1) ∧ W.cell? ⟨fb, 1, none⟩ = some (.int .i64 I.2) ∧ W.cell? ⟨bb, ob, none⟩ = some (.int .i64 (gS b 0).1) ∧ W.cell? ⟨bb, ob + 1, none⟩ = some (.int .i64 (gS b 0).2))
                (first | (with_reducible assumption) | (with_reducible exact KEEP.out _ (Ext.drew (Ext.refl _))) | (with_reducible exact KEEP.out _ (Ext.drew (Ext.alloc (Ext.refl _) _))) | fail)
                (first | fail)
              all_goals
                go_wp2_with fail
                go_meet
              all_goals exact ⟨_, rfl, (Blk.new' rfl).ext ((Ext.refl _).drew), ((Ext.refl _).alloc _).drew, Nat.le_refl _⟩
            case rest =>
              obtain ⟨db, hdb, hBd, hxc, hdl0⟩ := hcut
              have hdl : W0.heap.size ≤ db := Nat.le_trans HXz.out.size hdl0
              subst hdb
              clear f1 f2 d0 d1 hD1 hD2
              have HBD := Lib.hid hBd; have HXy := Lib.hid (HXz.out.trans hxc); have HTy := Lib.hid (HTz.out.ext hxc); clear hBd hxc
              obtain ⟨wy, rfl⟩ : ∃ wy : World, wy = wc := ⟨_, rfl⟩
              obtain ⟨t0, t1⟩ := blk2 HTy.out
              obtain ⟨g0, g1⟩ := blk2 HBD.out
              go_wp2_with fail
              refine (takes_any _ _ n ca cb f0 (r : Int) (D1, D2) a b _ (HA.out.ext (HX0.out.trans HXy.out)) (HB.out.ext (HX0.out.trans HXy.out)) HLA.out HLB.out hn).mono ?_
              rintro e w3 ⟨rfl, he3⟩
              have HTK : Hid (allB (tkF f0 (r : Int) (D1, D2) a b) n = cgB a b (4 * p + r)) := by
                show _ = _
                unfold cgB
                rw [HLA.out, ← HIF.out, ← HIQ.out, ← HDD.out]
              rw [HTK.out]
              have HX3 := Lib.hid (HXy.out.trans he3); have HT3 := Lib.hid (HTy.out.ext he3); have HB3 := Lib.hid (HBD.out.ext he3)
              clear he3 t0 t1 g0 g1
              cases hc : cgB a b (4 * p + r)
              · have HCF := Lib.hid hc; clear hc
                go_wp2_with fail
                go_roundw
                case rel => exact ⟨r + 1, by omega, by go_num, fun j hj => by
                  rcases Nat.lt_succ_iff_lt_or_eq.1 (show j < (4 * p + r) + 1 by omega) with h | h
                  · exact HAL.out j h
                  · subst h; exact HCF.out, HX3.out⟩
                case measure => simp [intOf]; omega
              · have HCT := Lib.hid hc; clear hc
                have HCN := Lib.hid (cgN_at (by omega) HAL.out HCT.out)
                have HRr := Lib.hid (HR.out.ext HX3.out); have HR2r := Lib.hid (HR2.out.ext HX3.out)
                obtain ⟨r0, r1⟩ := blk2 HRr.out
                obtain ⟨q0, q1⟩ := blk2 HR2r.out
                have e0 := HRr.out.frozen 0
                have e1 := HRr.out.frozen 1
                have e2 := HR2r.out.frozen 0
                have e3 := HR2r.out.frozen 1
                obtain ⟨t0, t1⟩ := blk2 HT3.out
                obtain ⟨g0, g1⟩ := blk2 HB3.out
                have hw2 : w.heap.size + 1 + 1 < W0.heap.size := HLb.out.lt
                have n1 : tb ≠ w.heap.size := by omega
                have n2 : tb ≠ w.heap.size + 1 := by omega
                have n3 : db ≠ w.heap.size := by omega
                have n4 : db ≠ w.heap.size + 1 := by omega
                go_wp2_with fail
                go_region
                all_goals
                  go_wp2_with fail
                  refine bodyPost_ret (v := .tuple #[TV f0 (r : Int), SV (D1, D2), .bool true]) (by simp [results, Try.results7, go_sem, r0, r1, q0, q1]) rfl ?_
                  refine ⟨?_, ?_⟩
                  · rw [if_pos ⟨by rw [HLA.out, HLB.out], by rw [HLA.out]; exact hn0, by rw [HCN.out]; omega⟩, HCN.out, ← HIF.out, ← HIQ.out, ← HDD.out]
                  · repeat (first | exact HX0.out.trans HX3.out | refine Ext.drew ?_ | refine Ext.setCell ?_ (by simp) _)
        · obtain rfl : r = 4 := by omega
          go_wp2_with fail
          go_roundw
          case rel => exact ⟨p + 1, by omega, by go_num, fun j hj => HAL.out j (by omega), HX.out⟩
          case measure => simp [intOf]; omega
    · obtain rfl : p = 2 := by omega
      have HN : Hid (¬ (a.length = b.length ∧ a.length ≠ 0 ∧ cgN a b < 8)) := by show ¬ _; rw [cgN_none HALL.out]; exact fun h => absurd h.2.2 (by omega)
      have HRr := Lib.hid (HR.out.ext HX.out); have HR2r := Lib.hid (HR2.out.ext HX.out)
      obtain ⟨r0, r1⟩ := blk2 HRr.out
      obtain ⟨q0, q1⟩ := blk2 HR2r.out
      have e0 := HRr.out.frozen 0
      have e1 := HRr.out.frozen 1
      have e2 := HR2r.out.frozen 0
      have e3 := HR2r.out.frozen 1
      go_wp2_with fail
      refine bodyPost_ret (v := .tuple #[TV false 0, SV (0, 0), .bool false]) (by simp [results, Try.results7, go_sem, r0, r1, q0, q1]) rfl (retC_no HN.out ?_)
      repeat (first | exact HX0.out.trans HX.out | refine Ext.drew ?_ | refine Ext.setCell ?_ (by simp) _)
end Go.Proofs.Ytnfchkkokgmliaa
