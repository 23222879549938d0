/- the reference: garmentref10.Round, locate, Along -/
import Derived.Deep.CutRange
import Derived.Deep.RegionHeld3
import Derived.RegionTactic
import Derived.Test.YtliijigdbpmpaaaGreatKRefC
import Derived.Test.YtliijigdbpmpaaaGreatKAlongP
namespace Go.Proofs.YtliijigdbpmpaaaGreat
open Go.RowKit
theorem rround10_pos (a b : Int) (w : World) (h0 : 0 ≤ a) (h1 : a ≤ 100000000000000000) (hb : 1 ≤ b) (hb' : b ≤ 100000000000) :
    Calls Tryz.prog 63 #[.int .i64 a, .int .i64 b] w fun e w' => e = .returned (.int .i64 ((2 * a + b) / (2 * b))) ∧ w = w' := by
  have hd : decide (a < 0) = false := by simp; omega
  have hne : (2 * b == 0) = false := by simp; omega
  go_enter Tryz.func63, Tryz.ntmps63
  go_wp2_with fail
  go_ret
  exact ⟨rfl, rfl⟩
theorem rround10_any (a b : Int) (w : World) (h0 : -100000000000000000 ≤ a) (h1 : a ≤ 100000000000000000) (hb : 1 ≤ b) (hb' : b ≤ 100000000000) :
    Calls Tryz.prog 63 #[.int .i64 a, .int .i64 b] w fun e w' => e = .returned (.int .i64 (rnd a b)) ∧ w = w' := by
  by_cases ha : a < 0
  · have hq0 : 0 ≤ (2 * (-a) + b) / (2 * b) := Int.ediv_nonneg (by omega) (by omega)
    have hq1 : (2 * (-a) + b) / (2 * b) ≤ 2 * (-a) + b := Int.ediv_le_self _ (by omega)
    go_enter Tryz.func63, Tryz.ntmps63
    go_wp2_with fail
    refine (rround10_pos (-a) b _ (by omega) (by omega) hb hb').mono ?_
    rintro e w1 ⟨rfl, rfl⟩
    go_wp2_with fail
    go_ret
    exact ⟨ret_int (by unfold rnd; rw [if_pos ha]), rfl⟩
  · exact (rround10_pos a b w (by omega) h1 hb hb').mono fun e w' ⟨he, hw⟩ => ⟨by rw [he]; exact ret_int (by unfold rnd; rw [if_neg ha]), hw⟩
/- behind a call that was made beside one or two new blocks -/
theorem ext_a1 {wq w2 : World} {a b : Value} {t : TypeId} (h : Ext (wq.alloc (.cells #[a, b] t)).drew w2) : Ext wq w2 ∧ Blk t w2 wq.heap.size [a, b] :=
  ⟨((Ext.refl _).alloc _).drew.trans h, ((Blk.new' rfl).ext (Ext.refl _).drew).ext h⟩
theorem ext_a2 {wq w2 : World} {a b c d : Value} {t : TypeId} (h : Ext ((wq.alloc (.cells #[a, b] t)).alloc (.cells #[c, d] t)).drew w2) : Ext wq w2 ∧ Blk t w2 wq.heap.size [a, b] ∧ Blk t w2 (wq.heap.size + 1) [c, d] :=
  ⟨(((Ext.refl _).alloc _).alloc _).drew.trans h, (((Blk.new' rfl).ext ((Ext.refl _).alloc _)).ext (Ext.refl _).drew).ext h, ((Blk.new' (by simp)).ext (Ext.refl _).drew).ext h⟩
theorem pt_prod {t x : Int} (h0 : 0 ≤ t) (h1 : t ≤ 4294967296) (h2 : -2097152 ≤ x) (h3 : x ≤ 2097152) : -100000000000000000 ≤ t * x ∧ t * x ≤ 100000000000000000 := by
  have k1 := Int.mul_le_mul_of_nonneg_left h3 h0
  have k2 := Int.mul_le_mul_of_nonneg_left h2 h0
  have k3 : t * 2097152 ≤ 4294967296 * 2097152 := Int.mul_le_mul_of_nonneg_right h1 (by omega)
  omega
theorem blk_one {t : TypeId} {w : World} {s : Nat} {x0 x1 : Value} (a b : Value) (o : Obj) (h1 : Blk t w s [x0, x1]) : Blk t (((w.setCell ⟨s, 0, none⟩ a).setCell ⟨s, 1, none⟩ b).alloc o) s [a, b] := ((h1.set 0 a).set 1 b).ext ((Ext.refl _).alloc _)
theorem blk_two {t : TypeId} {w : World} {s r : Nat} {x0 x1 y0 y1 : Value} (a b c d : Value) (h1 : Blk t w s [x0, x1]) (h2 : Blk t w r [y0, y1]) (hne : s ≠ r) :
    Blk t ((((w.setCell ⟨s, 0, none⟩ a).setCell ⟨s, 1, none⟩ b).setCell ⟨r, 0, none⟩ c).setCell ⟨r, 1, none⟩ d) s [a, b] ∧ Blk t ((((w.setCell ⟨s, 0, none⟩ a).setCell ⟨s, 1, none⟩ b).setCell ⟨r, 0, none⟩ c).setCell ⟨r, 1, none⟩ d) r [c, d] :=
  ⟨(((h1.set 0 a).set 1 b).other hne c).other hne d, (((h2.other (Ne.symm hne) a).other (Ne.symm hne) b).set 0 c).set 1 d⟩
set_option maxRecDepth 100000 in
set_option maxHeartbeats 6400000 in
theorem rlocate_any (A : Option Addr) (n c : Nat) (l : List Spot) (s : Int) (w : World) (ha : SpotsAt w A l) (hl : l.length = n) (hc : lcheck l = 0) (h0 : 0 ≤ s) (h1 : s ≤ (lengthN l : Int)) :
    Calls Tryz.prog 39 #[.slice A n c, .int .i64 s] w fun e w' => e = .returned (.tuple #[.int .i64 (locI l s : Int), SV (alongS l s)]) ∧ Ext w w' := by
  have HL := Lib.hid hl; have HA := Lib.hid ha; clear hl ha
  obtain ⟨hl2, hl40, hin⟩ := lcheck_zero hc
  have HIN := Lib.hid hin
  have HNE := Lib.hid ((lcheck_iff l).1 hc).2.2.2
  have HLT := Lib.hid (fun k hk => lenTo_le hin (k := k) hk)
  have hn2 : 2 ≤ n := by rw [← HL.out]; exact hl2
  have hn40 : n ≤ 40 := by rw [← HL.out]; exact hl40
  have HS1 : Hid (s ≤ (lenTo l (n - 1) : Int)) := by
    show _ ≤ _
    unfold lengthN at h1
    rwa [if_neg (fun h => h hc), HL.out] at h1
  have HLOC : Hid (∀ k, k < n - 1 → (∀ j, j < k → locB l s j = false) → locB l s k = true → locI l s = k) := fun k hk hj hb => locI_at (by rw [HL.out]; exact hk) hj hb
  have hsb : s ≤ 200000000000 := by
    have := HS1.out
    have h2 := HLT.out (n - 1) (by rw [HL.out]; exact Nat.le_refl _)
    have h3 : (n - 1) * 4294967296 ≤ 39 * 4294967296 := Nat.mul_le_mul_right _ (by omega)
    omega
  clear hin hl2 hl40 h1
  go_enter Tryz.func39, Tryz.ntmps39
  go_wp2_with fail
  refine wp_at fun W0 hW0 => ?_
  have hB0 : Blk 57 W0 w.heap.size [.int .i64 0, .int .i64 0] := by rw [hW0]; exact Blk.new' rfl
  have hx0 : Ext w W0 := by rw [hW0]; exact (Ext.refl _).alloc _
  have HB0 := Lib.hid hB0; have HX0 := Lib.hid hx0; clear hW0 hB0 hx0
  go_loopw [6, 7] (fun i f wr => ∃ k : Nat, k + 2 ≤ n ∧ i = .int .i64 ((k : Int) + 1) ∧ f = .int .i64 (lenTo l k : Int) ∧ (∀ j, j < k → locB l s j = false) ∧ Ext W0 wr) (fun i _ _ => n - (intOf i).toNat)
  case atStart => exact ⟨0, by omega, rfl, rfl, fun j hj => absurd hj (Nat.not_lt_zero _), Ext.refl _⟩
  case round =>
    obtain ⟨k, hk, rfl, hf, hall, hx⟩ := hrel
    have hlb := HLT.out k (by rw [HL.out]; omega)
    have hlb2 : k * 4294967296 ≤ 39 * 4294967296 := Nat.mul_le_mul_right _ (by omega)
    have HALL := Lib.hid hall; have HX := Lib.hid hx; clear hall hx
    obtain ⟨wq, rfl⟩ : ∃ wq : World, wq = wr := ⟨_, rfl⟩
    have hk1l : k < l.length := by rw [HL.out]; omega
    have hk2l : k + 1 < l.length := by rw [HL.out]; omega
    obtain ⟨ba, oa, hA, c0, c1⟩ := (HA.out.ext (HX0.out.trans HX.out)).g hk1l
    subst hA
    obtain ⟨d0, d1⟩ := (HA.out.ext (HX0.out.trans HX.out)).at1 hk2l
    obtain ⟨P0, hP0⟩ : ∃ P0, P0 = gS l k := ⟨_, rfl⟩
    obtain ⟨Q0, hQ0⟩ : ∃ Q0, Q0 = gS l (k + 1) := ⟨_, rfl⟩
    rw [← hP0] at c0 c1
    rw [← hQ0] at d0 d1
    have hpB : inB P0 := by rw [hP0]; exact HIN.out k hk1l
    have hqB : inB Q0 := by rw [hQ0]; exact HIN.out (k + 1) hk2l
    have hseg1 : 1 ≤ seg P0 Q0 := seg_pos hpB hqB (by rw [hP0, hQ0]; exact HNE.out k hk2l)
    have hseg2 := seg_le hpB hqB
    have HSEG : Hid (lenTo l (k + 1) = lenTo l k + seg P0 Q0) := by show _ = _; rw [hP0, hQ0]; rfl
    have HPT : Hid (ptS l s k = midS P0 Q0 (s - lenTo l k) (seg P0 Q0)) := by show _ = _; rw [hP0, hQ0]; rfl
    have HLB : Hid (locB l s k = decide (s ≤ (lenTo l (k + 1) : Int))) := rfl
    rw [HSEG.out] at HLB
    obtain ⟨F, hF⟩ : ∃ F, F = lenTo l k := ⟨_, rfl⟩
    rw [← hF] at hf hlb HSEG HPT HLB
    subst hf
    obtain ⟨SG, hSG⟩ : ∃ SG, SG = seg P0 Q0 := ⟨_, rfl⟩
    have HSC : Hid (∀ W : World, Calls Tryz.prog 61 #[SV P0, SV Q0] W fun e w' => e = .returned (.int .i64 (SG : Int)) ∧ Ext W w') := fun W => by rw [hSG]; exact rsegment_any P0 Q0 W hpB hqB
    rw [← hSG] at hseg1 hseg2 HSEG HPT HLB
    have HPB := Lib.hid hpB; have HQB := Lib.hid hqB; have HFE := Lib.hid hF
    clear hP0 hQ0 hpB hqB hF hSG
    obtain ⟨px, py⟩ := P0
    obtain ⟨qx, qy⟩ := Q0
    simp only [SV] at HSC c0 c1 d0 d1
    have e1 : IntKind.i64.wrap ((k : Int) + 1 + 1) = (k : Int) + 1 + 1 := IntWalk.i64_in _ (by omega)
    have e2 : IntKind.i64.wrap ((k : Int) + 1 - 1) = (k : Int) := by rw [IntWalk.i64_in _ (by omega)]; omega
    have e3 : IntKind.i64.wrap ((F : Int) + SG) = (F : Int) + SG := IntWalk.i64_in _ (by omega)
    have e4 : (k : Int) < n := by omega
    have e5 : (0 : Int) ≤ k := by omega
    have e6 : (k : Int) + 1 < n := by omega
    have e7 : (0 : Int) ≤ (k : Int) + 1 := by omega
    have e8 : ((k : Int) + 1).toNat = k + 1 := by omega
    by_cases hgo : k + 2 < n ∧ (F : Int) + SG < s
    · obtain ⟨g1, g2⟩ := hgo
      have t1 : decide ((k : Int) + 1 + 1 < n) = true := decide_eq_true (by omega)
      have t2 : decide ((F : Int) + SG < s) = true := decide_eq_true g2
      have z0 := fun z : After wq => After.cell c0 z
      have z1 := fun z : After wq => After.cell c1 z
      have z2 := fun z : After wq => After.cell d0 z
      have z3 := fun z : After wq => After.cell d1 z
      go_upto_region 2 with fail
      refine region_ext (by kernel_rfl) (by kernel_rfl) ?_
      repeat (first | go_big_quiet_step ((go_at_call 61; exact after_call (HSC.out _))) | (go_big_quiet_want; go_simp; go_big_quiet_on))
      refine wpQuiet_nil ?_
      rintro w3 ⟨⟨_, he3⟩, rfl⟩
      clear z0 z1 z2 z3
      go_upto_region 3 with fail
      have y0 := fun z : After w3 => After.cell (he3.cell c0) z
      have y1 := fun z : After w3 => After.cell (he3.cell c1) z
      have y2 := fun z : After w3 => After.cell (he3.cell d0) z
      have y3 := fun z : After w3 => After.cell (he3.cell d1) z
      refine region_ext (by kernel_rfl) (by kernel_rfl) ?_
      repeat (first | go_big_quiet_step ((go_at_call 61; exact after_call (HSC.out _))) | (go_big_quiet_want; go_simp; go_big_quiet_on))
      refine wpQuiet_nil ?_
      rintro w4 ⟨⟨_, he4⟩, rfl⟩
      clear y0 y1 y2 y3 c0 c1 d0 d1
      have HXn := Lib.hid ((HX.out.trans he3).trans he4)
      have HLBF : Hid (locB l s k = false) := by show _ = _; rw [HLB.out]; exact decide_eq_false (by omega)
      clear e1 e2 e3 e4 e5 e6 e7 e8 t1 t2 he3 he4
      go_wp2_with fail
      go_roundw
      case rel =>
        refine ⟨k + 1, by omega, by go_num, by rw [HSEG.out]; go_num, fun j hj => ?_, HXn.out⟩
        rcases Nat.lt_succ_iff_lt_or_eq.1 hj with h | h
        · exact HALL.out j h
        · rw [h]; exact HLBF.out
      case measure => simp [intOf]; omega
    · have HLI : Hid (locI l s = k) := HLOC.out k (by omega) HALL.out (by
        rw [HLB.out]
        refine decide_eq_true ?_
        by_cases g1 : k + 2 < n
        · have : ¬ (F : Int) + SG < s := fun h => hgo ⟨g1, h⟩
          omega
        · have := HS1.out
          rw [show n - 1 = k + 1 by omega, HSEG.out] at this
          omega)
      have HAL : Hid (alongS l s = midS (px, py) (qx, qy) (s - (F : Int)) (SG : Int)) := by show _ = _; unfold alongS; rw [HLI.out, HPT.out]
      have hsF : 0 ≤ s - (F : Int) ∧ s - (F : Int) ≤ SG := by
        have hlf := loc_facts hc h0 (show s ≤ (lengthN l : Int) by unfold lengthN; rw [if_neg (fun h => h hc), HL.out]; exact HS1.out)
        rw [HLI.out, ← HFE.out] at hlf
        have hb := hlf.2.1
        have : locB l s k = true := by
          rw [HLB.out]
          refine decide_eq_true ?_
          by_cases g1 : k + 2 < n
          · have : ¬ (F : Int) + SG < s := fun h => hgo ⟨g1, h⟩
            omega
          · have := HS1.out
            rw [show n - 1 = k + 1 by omega, HSEG.out] at this
            omega
        rw [HLB.out] at this
        have := of_decide_eq_true this
        omega
      go_upto_region 2 with fail
      go_cut [31] from 11 to 31 (fun v wc => v = .bool false ∧ Ext wq wc)
      case first =>
        have z0 := fun z : After wq => After.cell c0 z
        have z1 := fun z : After wq => After.cell c1 z
        have z2 := fun z : After wq => After.cell d0 z
        have z3 := fun z : After wq => After.cell d1 z
        by_cases g1 : k + 2 < n
        · have t1 : decide ((k : Int) + 1 + 1 < n) = true := decide_eq_true (by omega)
          have t2 : decide ((F : Int) + SG < s) = false := decide_eq_false (fun h => hgo ⟨g1, h⟩)
          refine region_ext (by kernel_rfl) (by kernel_rfl) ?_
          repeat (first | go_big_quiet_step ((go_at_call 61; exact after_call (HSC.out _))) | (go_big_quiet_want; go_simp; go_big_quiet_on))
          refine wpQuiet_nil ?_
          rintro w3 ⟨⟨_, he3⟩, rfl⟩
          clear z0 z1 z2 z3
          go_wp2_with fail
          go_meet
          case rel => exact ⟨rfl, he3⟩
        · have t1 : decide ((k : Int) + 1 + 1 < n) = false := decide_eq_false (by omega)
          refine region_ext (by kernel_rfl) (by kernel_rfl) ?_
          repeat (first | go_big_quiet_step ((go_at_call 61; exact after_call (HSC.out _))) | (go_big_quiet_want; go_simp; go_big_quiet_on))
          refine wpQuiet_nil ?_
          rintro w3 ⟨⟨_, he3⟩, rfl⟩
          clear z0 z1 z2 z3
          go_wp2_with fail
          go_meet
          case rel => exact ⟨rfl, he3⟩
      case rest =>
        obtain ⟨hcv, hxc⟩ := hcut
        subst hcv
        obtain ⟨w5, rfl⟩ : ∃ w5 : World, w5 = wc := ⟨_, rfl⟩
        have c0' := hxc.cell c0
        have c1' := hxc.cell c1
        have d0' := hxc.cell d0
        have d1' := hxc.cell d1
        have HX5 := Lib.hid (HX.out.trans hxc)
        clear c0 c1 d0 d1 hxc hgo e1 e3
        have e2' : IntKind.i64.wrap (k : Int) = (k : Int) := IntWalk.i64_in _ (by omega)
        go_upto_region 5 with fail
        go_cut [8, 9, 10] from 46 to 64 (fun pa pb sg wc => ∃ ab bb, pa = .pointer (some ⟨ab, 0, none⟩) ∧ pb = .pointer (some ⟨bb, 0, none⟩) ∧ sg = .int .i64 (SG : Int) ∧ Blk 57 wc ab [.int .i64 px, .int .i64 py] ∧ Blk 57 wc bb [.int .i64 qx, .int .i64 qy] ∧ Ext w5 wc ∧ w5.heap.size ≤ ab ∧ w5.heap.size ≤ bb)
        case first =>
          have keep : ∀ W1 : World, Ext w5 W1 → (Ext w5 W1 ∧ W1.cell? ⟨ba, oa + k * 2, none⟩ = some (.int .i64 px) ∧ W1.cell? ⟨ba, oa + k * 2 + 1, none⟩ = some (.int .i64 py) ∧ W1.cell? ⟨ba, oa + (k + 1) * 2, none⟩ = some (.int .i64 qx) ∧ W1.cell? ⟨ba, oa + (k + 1) * 2 + 1, none⟩ = some (.int .i64 qy)) := fun W1 hx => ⟨hx, hx.cell c0', hx.cell c1', hx.cell d0', hx.cell d1'⟩
          have KEEP := Lib.hid keep; clear keep c0' c1' d0' d1'
          go_region_held3 (fun W => Ext w5 W ∧ W.cell? ⟨ba, oa + k * 2, none⟩ = some (.int .i64 px) ∧ W.cell? ⟨ba, oa + k * 2 + 1, none⟩ = some (.int .i64 py) ∧ W.cell? ⟨ba, oa + (k + 1) * 2, none⟩ = some (.int .i64 qx) ∧ W.cell? ⟨ba, oa + (k + 1) * 2 + 1, none⟩ = some (.int .i64 qy))
            (first | (with_reducible assumption) | (with_reducible exact KEEP.out _ hx2) | exact KEEP.out _ (by repeat (first | with_reducible exact hx2 | with_reducible exact Ext.refl _ | apply Ext.alloc | apply Ext.drew | (refine Ext.setCell ?_ (by simp) _))) | fail)
            (first
              | (go_at_call 61; (with_reducible refine (HSC.out _).mono ?_); rintro e w2 ⟨rfl, he2⟩; first | (obtain ⟨hx2, hb1, hb2⟩ := ext_a2 he2; obtain ⟨s0, s1⟩ := blk2 hb1; obtain ⟨r0, r1⟩ := blk2 hb2; have f0 := hb1.frozen 0; have f1 := hb1.frozen 1; have f2 := hb2.frozen 0; have f3 := hb2.frozen 1; have hz2 : w5.heap.size + 1 < w2.heap.size := hb2.lt; have HB1 := Lib.hid hb1; have HB2 := Lib.hid hb2; clear hb1 hb2 he2) | (obtain ⟨hx2, hb1⟩ := ext_a1 he2; obtain ⟨s0, s1⟩ := blk2 hb1; have f0 := hb1.frozen 0; have f1 := hb1.frozen 1; have hz2 : w5.heap.size < w2.heap.size := hb1.lt; have HB1 := Lib.hid hb1; clear hb1 he2) | (have hx2 : Ext w5 w2 := (Ext.refl _).drew.trans he2; clear he2))
              | fail)
          all_goals
            go_wp2_with fail
            go_meet
          all_goals refine ⟨_, _, rfl, rfl, rfl, ?_, ?_, ?_, ?_, ?_⟩
          all_goals first
            | (with_reducible exact Nat.le_refl _)
            | (with_reducible exact Nat.le_succ _)
            | (with_reducible exact hx2.size)
            | (with_reducible exact Nat.le_succ_of_le hx2.size)
            | (with_reducible exact (Blk.new' rfl).ext ((Ext.refl _).alloc _))
            | (with_reducible exact Blk.new' (by simp))
            | (with_reducible exact blk_one _ _ _ HB1.out)
            | (with_reducible exact (blk_two _ _ _ _ HB1.out HB2.out (by omega)).1)
            | (with_reducible exact (blk_two _ _ _ _ HB1.out HB2.out (by omega)).2)
            | (with_reducible exact (blk_two _ _ _ _ HB2.out HB1.out (by omega)).1)
            | (with_reducible exact (blk_two _ _ _ _ HB2.out HB1.out (by omega)).2)
            | (with_reducible exact (hx2.alloc _).alloc _)
            | (with_reducible exact ((hx2.setCell (p := ⟨_, 0, none⟩) (Nat.le_refl _) _).setCell (p := ⟨_, 1, none⟩) (Nat.le_refl _) _).alloc _)
            | (with_reducible exact (((hx2.setCell (p := ⟨_, 0, none⟩) (Nat.le_refl _) _).setCell (p := ⟨_, 1, none⟩) (Nat.le_refl _) _).setCell (p := ⟨_, 0, none⟩) (Nat.le_succ _) _).setCell (p := ⟨_, 1, none⟩) (Nat.le_succ _) _)
            | (with_reducible exact (((hx2.setCell (p := ⟨_, 0, none⟩) (Nat.le_succ _) _).setCell (p := ⟨_, 1, none⟩) (Nat.le_succ _) _).setCell (p := ⟨_, 0, none⟩) (Nat.le_refl _) _).setCell (p := ⟨_, 1, none⟩) (Nat.le_refl _) _)
            | fail
        case rest =>
          obtain ⟨ab, bb, hpa, hpb, hsg, hBa, hBb, hxc, hga, hgb⟩ := hcut
          subst hpa hpb hsg
          obtain ⟨w6, rfl⟩ : ∃ w6 : World, w6 = wc := ⟨_, rfl⟩
          have HX6 := Lib.hid (HX5.out.trans hxc)
          obtain ⟨a0, a1⟩ := blk2 hBa
          obtain ⟨b0, b1⟩ := blk2 hBb
          clear c0' c1' d0' d1' hBa hBb hxc e2 e2' e4 e5 e6 e7 e8
          have hp1 := HPB.out; have hq1 := HQB.out
          obtain ⟨p1, p2, p3, p4⟩ := hp1
          obtain ⟨q1, q2, q3, q4⟩ := hq1
          simp only at p1 p2 p3 p4 q1 q2 q3 q4
          obtain ⟨T, hT⟩ : ∃ T, T = s - (F : Int) := ⟨_, rfl⟩
          rw [← hT] at hsF HAL
          obtain ⟨t0, t1⟩ := hsF
          have m1 := pt_prod (x := qx - px) t0 (show T ≤ 4294967296 by omega) (by omega) (by omega)
          have m2 := pt_prod (x := qy - py) t0 (show T ≤ 4294967296 by omega) (by omega) (by omega)
          obtain ⟨m1a, m1b⟩ := m1
          obtain ⟨m2a, m2b⟩ := m2
          obtain ⟨R1, hR1⟩ : ∃ R, R = rnd (T * (qx - px)) (SG : Int) := ⟨_, rfl⟩
          obtain ⟨R2, hR2⟩ : ∃ R, R = rnd (T * (qy - py)) (SG : Int) := ⟨_, rfl⟩
          have hd1 := mid_bd (a := px) (b := qx) (n := (SG : Int)) (by omega) t0 t1 ⟨p1, p2⟩ ⟨q1, q2⟩
          have hd2 := mid_bd (a := py) (b := qy) (n := (SG : Int)) (by omega) t0 t1 ⟨p3, p4⟩ ⟨q3, q4⟩
          rw [← hR1] at hd1
          rw [← hR2] at hd2
          obtain ⟨X1, hX1⟩ : ∃ X, X = T * (qx - px) := ⟨_, rfl⟩
          obtain ⟨X2, hX2⟩ : ∃ X, X = T * (qy - py) := ⟨_, rfl⟩
          rw [← hX1] at m1a m1b hR1
          rw [← hX2] at m2a m2b hR2
          have HR1 : Hid (∀ W : World, Calls Tryz.prog 63 #[.int .i64 X1, .int .i64 (SG : Int)] W fun e w' => e = .returned (.int .i64 R1) ∧ W = w') := fun W => by rw [hR1]; exact rround10_any X1 SG W m1a m1b (by omega) (by omega)
          have HR2 : Hid (∀ W : World, Calls Tryz.prog 63 #[.int .i64 X2, .int .i64 (SG : Int)] W fun e w' => e = .returned (.int .i64 R2) ∧ W = w') := fun W => by rw [hR2]; exact rround10_any X2 SG W m2a m2b (by omega) (by omega)
          have HAL' : Hid (alongS l s = (px + R1, py + R2)) := by show _ = _; rw [HAL.out]; unfold midS; simp only; rw [← hX1, ← hX2, ← hR1, ← hR2]
          have u1 : IntKind.i64.wrap (s - (F : Int)) = T := by rw [hT]; exact IntWalk.i64_in _ (by omega)
          have u2 : IntKind.i64.wrap (qx - px) = qx - px := IntWalk.i64_in _ (by omega)
          have u3 : IntKind.i64.wrap (qy - py) = qy - py := IntWalk.i64_in _ (by omega)
          have u4 : IntKind.i64.wrap (T * (qx - px)) = X1 := by rw [← hX1]; exact IntWalk.i64_in _ (by omega)
          have u5 : IntKind.i64.wrap (T * (qy - py)) = X2 := by rw [← hX2]; exact IntWalk.i64_in _ (by omega)
          have u6 : IntKind.i64.wrap (px + R1) = px + R1 := IntWalk.i64_in _ (by omega)
          have u7 : IntKind.i64.wrap (py + R2) = py + R2 := IntWalk.i64_in _ (by omega)
          have u8 : IntKind.i64.wrap ((k : Int) + 1 - 1) = (k : Int) := by rw [IntWalk.i64_in _ (by omega)]; omega
          have u9 : IntKind.i64.wrap (k : Int) = (k : Int) := IntWalk.i64_in _ (by omega)
          clear hT hX1 hX2 hR1 hR2 HAL
          have hsz : w.heap.size < w5.heap.size := (HB0.out.ext HX5.out).lt
          have hna : w.heap.size ≠ ab := by omega
          have hnb : w.heap.size ≠ bb := by omega
          have HB6 := Lib.hid (HB0.out.ext HX6.out)
          obtain ⟨r0, r1⟩ := blk2 HB6.out
          have f0 := HB6.out.frozen 0
          have f1 := HB6.out.frozen 1
          go_upto_region 6 with fail
          have KEEP : Hid (w6.cell? ⟨ab, 0, none⟩ = some (.int .i64 px) ∧ w6.cell? ⟨ab, 1, none⟩ = some (.int .i64 py) ∧ w6.cell? ⟨bb, 0, none⟩ = some (.int .i64 qx) ∧ w6.cell? ⟨bb, 1, none⟩ = some (.int .i64 qy)) := ⟨a0, a1, b0, b1⟩
          have KSET : Hid (∀ u v, ((w6.setCell ⟨w.heap.size, 0, none⟩ u).setCell ⟨w.heap.size, 1, none⟩ v).cell? ⟨ab, 0, none⟩ = some (.int .i64 px) ∧ ((w6.setCell ⟨w.heap.size, 0, none⟩ u).setCell ⟨w.heap.size, 1, none⟩ v).cell? ⟨ab, 1, none⟩ = some (.int .i64 py) ∧ ((w6.setCell ⟨w.heap.size, 0, none⟩ u).setCell ⟨w.heap.size, 1, none⟩ v).cell? ⟨bb, 0, none⟩ = some (.int .i64 qx) ∧ ((w6.setCell ⟨w.heap.size, 0, none⟩ u).setCell ⟨w.heap.size, 1, none⟩ v).cell? ⟨bb, 1, none⟩ = some (.int .i64 qy)) := fun u v => by
            have far : ∀ (b o : Nat) (x : Value), w.heap.size ≠ b → w6.cell? ⟨b, o, none⟩ = some x → ((w6.setCell ⟨w.heap.size, 0, none⟩ u).setCell ⟨w.heap.size, 1, none⟩ v).cell? ⟨b, o, none⟩ = some x := fun b o x hb h => (World.cell?_setCell_far _ ⟨w.heap.size, 1, none⟩ ⟨b, o, none⟩ v hb).trans ((World.cell?_setCell_far _ ⟨w.heap.size, 0, none⟩ ⟨b, o, none⟩ u hb).trans h)
            exact ⟨far _ _ _ hna a0, far _ _ _ hna a1, far _ _ _ hnb b0, far _ _ _ hnb b1⟩
          clear a0 a1 b0 b1
          go_region_held3 (fun W => W.cell? ⟨ab, 0, none⟩ = some (.int .i64 px) ∧ W.cell? ⟨ab, 1, none⟩ = some (.int .i64 py) ∧ W.cell? ⟨bb, 0, none⟩ = some (.int .i64 qx) ∧ W.cell? ⟨bb, 1, none⟩ = some (.int .i64 qy))
            (first | (with_reducible assumption) | (with_reducible exact KEEP.out) | (with_reducible exact KSET.out _ _) | exact KEEP.out | exact KSET.out _ _ | fail)
            (first
              | (go_at_call 63; (with_reducible refine (HR1.out _).mono ?_); rintro e wa ⟨rfl, rfl⟩)
              | (go_at_call 63; (with_reducible refine (HR2.out _).mono ?_); rintro e wa ⟨rfl, rfl⟩)
              | fail)
          all_goals
            go_wp2_with fail
            refine bodyPost_ret (v := .tuple #[.int .i64 (k : Int), SV (px + R1, py + R2)]) (by simp [results, Tryz.results39, go_sem, r0, r1]) rfl ⟨by rw [HAL'.out, HLI.out], ?_⟩
            first
              | exact (((HX0.out.trans HX6.out).setCell (Nat.le_refl _) _).setCell (Nat.le_refl _) _).drew
              | exact ((HX0.out.trans HX6.out).drew.setCell (Nat.le_refl _) _).setCell (Nat.le_refl _) _
              | exact ((HX0.out.trans HX6.out).setCell (Nat.le_refl _) _).setCell (Nat.le_refl _) _
end Go.Proofs.YtliijigdbpmpaaaGreat
