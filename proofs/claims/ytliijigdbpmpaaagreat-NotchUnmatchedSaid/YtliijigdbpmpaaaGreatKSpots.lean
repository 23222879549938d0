/- notch.Spots -/
import Derived.Deep.CutRange
import Derived.Deep.RegionHeld3
import Derived.RegionTactic
import Derived.Deep.AppendLies
import Derived.Test.YtliijigdbpmpaaaGreatKPlaced
/- polyline.quotient -/
namespace Go.Proofs.YtliijigdbpmpaaaGreat
open Go.RowKit
theorem quot_pos (a b : Int) (w : World) (h0 : 0 ≤ a) (h1 : a ≤ 100000000000000000) (hb : 1 ≤ b) (hb' : b ≤ 100000000000) :
    Calls Tryz.prog 62 #[.int .i64 a, .int .i64 b] w fun e w' => e = .returned (.int .i64 ((2 * a + b) / (2 * b))) ∧ w = w' := by
  have hd : decide (a < 0) = false := by simp; omega
  have hne : (2 * b == 0) = false := by simp; omega
  go_enter Tryz.func62, Tryz.ntmps62
  go_wp2_with fail
  go_ret
  exact ⟨rfl, rfl⟩
theorem quot_any (a b : Int) (w : World) (h0 : -100000000000000000 ≤ a) (h1 : a ≤ 100000000000000000) (hb : 1 ≤ b) (hb' : b ≤ 100000000000) :
    Calls Tryz.prog 62 #[.int .i64 a, .int .i64 b] w fun e w' => e = .returned (.int .i64 (rnd a b)) ∧ w = w' := by
  by_cases ha : a < 0
  · have hq0 : 0 ≤ (2 * (-a) + b) / (2 * b) := Int.ediv_nonneg (by omega) (by omega)
    have hq1 : (2 * (-a) + b) / (2 * b) ≤ 2 * (-a) + b := Int.ediv_le_self _ (by omega)
    go_enter Tryz.func62, Tryz.ntmps62
    go_wp2_with fail
    refine (quot_pos (-a) b _ (by omega) (by omega) hb hb').mono ?_
    rintro e w1 ⟨rfl, rfl⟩
    go_wp2_with fail
    go_ret
    exact ⟨ret_int (by unfold rnd; rw [if_pos ha]), rfl⟩
  · exact (quot_pos a b w (by omega) h1 hb hb').mono fun e w' ⟨he, hw⟩ => ⟨by rw [he]; exact ret_int (by unfold rnd; rw [if_neg ha]), hw⟩
end Go.Proofs.YtliijigdbpmpaaaGreat
/- polyline.locate, Along -/
namespace Go.Proofs.YtliijigdbpmpaaaGreat
open Go.RowKit
def RetLo (w : World) (l : List Spot) (s : Int) (e : Ending) (w' : World) : Prop :=
  (∃ i : Int, e = .returned (.tuple #[.int .i64 i, SV (alongV l s), .int .i64 (alongE l s)])) ∧ Ext w w'
theorem retLo_bad {w w' : World} {l : List Spot} {s x : Int} (h : alongE l s = x) (hx : x ≠ 0) (he : Ext w w') : RetLo w l s (.returned (.tuple #[.int .i64 0, SV (0, 0), .int .i64 x])) w' :=
  ⟨⟨0, by unfold alongV; rw [h, if_pos hx]⟩, he⟩
/- one segment's point, in the machine's numbers -/
theorem pt_exact {a b t n : Int} (hn : 1 ≤ n) (hn2 : n ≤ 4294967296) (h0 : 0 ≤ t) (h1 : t ≤ n) (ha : -1048576 ≤ a ∧ a ≤ 1048576) (hb : -1048576 ≤ b ∧ b ≤ 1048576) :
    wrap64 (b - a) = b - a ∧ -100000000000000000 ≤ t * (b - a) ∧ t * (b - a) ≤ 100000000000000000 ∧ wrap64 (t * (b - a)) = t * (b - a) ∧ wrap64 (a + rnd (t * (b - a)) n) = a + rnd (t * (b - a)) n := by
  have k1 := Int.mul_le_mul_of_nonneg_left (show b - a ≤ 2097152 by omega) h0
  have k2 := Int.mul_le_mul_of_nonneg_left (show -2097152 ≤ b - a by omega) h0
  have k3 := mid_bd hn h0 h1 ha hb
  exact ⟨w64 (by omega) (by omega), by omega, by omega, w64 (by omega) (by omega), w64 (by omega) (by omega)⟩
set_option maxRecDepth 100000 in
set_option maxHeartbeats 3200000 in
theorem locate_any (A : Option Addr) (n c : Nat) (l : List Spot) (s : Int) (w : World) (ha : SpotsAt w A l) (hl : l.length = n) (hs : s ≤ 4000000000000000) :
    Calls Tryz.prog 38 #[.slice A n c, .int .i64 s] w (RetLo w l s) := by
  have HA := Lib.hid ha; have HL := Lib.hid hl; clear ha hl
  go_enter Tryz.func38, Tryz.ntmps38
  go_wp2_with fail
  refine (lcheck_any A n c l _ (HA.out.ext ((Ext.refl _).alloc _)) HL.out).mono ?_
  rintro e w1 ⟨rfl, he1⟩
  have HB1 : Hid (Blk 57 w1 w.heap.size [.int .i64 0, .int .i64 0]) := (Blk.new' rfl).ext he1
  have HX1 := Lib.hid (((Ext.refl w).alloc _).trans he1); clear he1
  by_cases hz : lcheck l = 0
  rotate_left
  · have HR : Hid (alongE l s = lcheck l) := by show _ = _; unfold alongE; rw [if_pos hz]
    have hzb : (lcheck l != 0) = true := by simp [hz]
    obtain ⟨x, hx⟩ : ∃ x, x = lcheck l := ⟨_, rfl⟩
    rw [← hx] at hz hzb HR ⊢
    have HZ := Lib.hid hz; clear hz hx
    obtain ⟨r0, r1⟩ := blk2 HB1.out
    have f0 := HB1.out.frozen 0
    have f1 := HB1.out.frozen 1
    go_wp2_with fail
    refine bodyPost_ret (v := .tuple #[.int .i64 0, SV (0, 0), .int .i64 x]) (by simp [results, Tryz.results38, go_sem, r0, r1]) rfl (retLo_bad HR.out HZ.out ?_)
    exact (HX1.out.setCell (Nat.le_refl _) _).setCell (Nat.le_refl _) _
  obtain ⟨h2, h40, hin⟩ := lcheck_zero hz
  rw [HL.out] at h2 h40
  have HIN := Lib.hid hin; have HZ := Lib.hid hz
  rw [hz]
  clear hin hz
  by_cases hs0 : s < 0
  · have HR : Hid (alongE l s = 3) := by show _ = _; unfold alongE; rw [if_neg (fun h => h HZ.out), if_pos (Or.inl hs0)]
    obtain ⟨r0, r1⟩ := blk2 HB1.out
    have f0 := HB1.out.frozen 0
    have f1 := HB1.out.frozen 1
    go_wp2_with fail
    refine bodyPost_ret (v := .tuple #[.int .i64 0, SV (0, 0), .int .i64 3]) (by simp [results, Tryz.results38, go_sem, r0, r1]) rfl (retLo_bad HR.out (by decide) ?_)
    exact (HX1.out.setCell (Nat.le_refl _) _).setCell (Nat.le_refl _) _
  go_wp2_with fail
  go_loopw [8, 27] (fun f i wr => ∃ k : Nat, k ≤ n - 1 ∧ i = .int .i64 k ∧ f = .int .i64 (lenTo l k : Int) ∧ (∀ j, j < k → locB l s j = false) ∧ Ext w1 wr) (fun _ i _ => n - (intOf i).toNat)
  case atStart => exact ⟨0, Nat.zero_le _, rfl, rfl, fun j hj => absurd hj (Nat.not_lt_zero _), Ext.refl _⟩
  case round =>
    obtain ⟨k, hk, rfl, rfl, hall, hx⟩ := hrel
    have HALL := Lib.hid hall; have HX := Lib.hid hx; clear hall hx
    obtain ⟨wq, rfl⟩ : ∃ wq : World, wq = wr := ⟨_, rfl⟩
    have HXw := Lib.hid (HX1.out.trans HX.out)
    have hlt40 := lenTo_le HIN.out k (by rw [HL.out]; omega)
    by_cases hlt : k < n - 1
    · have hlt' : (k : Int) < (n : Int) - 1 := by omega
      obtain ⟨ba, oa, hA, c0, c1⟩ := (HA.out.ext HXw.out).g (k := k) (by rw [HL.out]; omega)
      subst hA
      obtain ⟨d0, d1⟩ := (HA.out.ext HXw.out).at1 (k := k + 1) (by rw [HL.out]; omega)
      have hs0 : (k : Int) < n := by omega
      have hs0' : k < n := by omega
      have hs5 : (0 : Int) ≤ k := by omega
      have hs1 : IntKind.i64.wrap ((k : Int) + 1) = k + 1 := IntWalk.i64_in _ (by omega)
      have hs2 : ((k : Int) + 1).toNat = k + 1 := by omega
      have hs3 : (k : Int) + 1 < n := by omega
      have hs4 : 0 ≤ (k : Int) + 1 := by omega
      obtain ⟨P0, hP0⟩ : ∃ P0, P0 = gS l k := ⟨_, rfl⟩
      obtain ⟨Q0, hQ0⟩ : ∃ Q0, Q0 = gS l (k + 1) := ⟨_, rfl⟩
      rw [← hP0] at c0 c1
      rw [← hQ0] at d0 d1
      have hpB : inB P0 := by rw [hP0]; exact HIN.out k (by rw [HL.out]; omega)
      have hqB : inB Q0 := by rw [hQ0]; exact HIN.out (k + 1) (by rw [HL.out]; omega)
      have hseg1 : 1 ≤ seg P0 Q0 := seg_pos hpB hqB (by rw [hP0, hQ0]; exact ((lcheck_iff l).1 HZ.out).2.2.2 k (by rw [HL.out]; omega))
      have hseg2 := seg_le hpB hqB
      have HPB := Lib.hid hpB; have HQB := Lib.hid hqB
      have HSEG : Hid (lenTo l (k + 1) = lenTo l k + seg P0 Q0) := by show _ = _; rw [hP0, hQ0]; rfl
      have HPT : Hid (ptS l s k = midS P0 Q0 (s - lenTo l k) (seg P0 Q0)) := by show _ = _; rw [hP0, hQ0]; rfl
      clear hP0 hQ0 hpB hqB
      go_upto_region 10 with fail
      go_cut [10, 11] from 30 to 38 (fun pa pb wc => ∃ ab bb, pa = .pointer (some ⟨ab, 0, none⟩) ∧ pb = .pointer (some ⟨bb, 0, none⟩) ∧ Blk 57 wc ab [.int .i64 P0.1, .int .i64 P0.2] ∧ Blk 57 wc bb [.int .i64 Q0.1, .int .i64 Q0.2] ∧ Ext wq wc)
      case first =>
        have keep : ∀ W1 : World, Ext wq W1 → (Ext wq W1 ∧ W1.cell? ⟨ba, oa + k * 2, none⟩ = some (.int .i64 P0.1) ∧ W1.cell? ⟨ba, oa + k * 2 + 1, none⟩ = some (.int .i64 P0.2) ∧ W1.cell? ⟨ba, oa + (k + 1) * 2, none⟩ = some (.int .i64 Q0.1) ∧ W1.cell? ⟨ba, oa + (k + 1) * 2 + 1, none⟩ = some (.int .i64 Q0.2)) := fun W1 hx => ⟨hx, hx.cell c0, hx.cell c1, hx.cell d0, hx.cell d1⟩
        have KEEP := Lib.hid keep; clear keep c0 c1 d0 d1
        go_region_held3 (fun W => Ext wq W ∧ W.cell? ⟨ba, oa + k * 2, none⟩ = some (.int .i64 P0.1) ∧ W.cell? ⟨ba, oa + k * 2 + 1, none⟩ = some (.int .i64 P0.2) ∧ W.cell? ⟨ba, oa + (k + 1) * 2, none⟩ = some (.int .i64 Q0.1) ∧ W.cell? ⟨ba, oa + (k + 1) * 2 + 1, none⟩ = some (.int .i64 Q0.2))
          (first | assumption | exact KEEP.out _ (by repeat (first | exact Ext.refl _ | apply Ext.alloc | apply Ext.drew)) | fail)
          (first | fail)
        all_goals
          go_wp2_with fail
          go_meet
        all_goals
          refine ⟨_, _, rfl, rfl, ?_, ?_, ?_⟩
          · first
              | exact ((Blk.new' rfl).ext ((Ext.refl _).alloc _)).ext ((Ext.refl _).drew)
              | exact (Blk.new' (by simp)).ext ((Ext.refl _).drew)
              | fail
          · first
              | exact ((Blk.new' rfl).ext ((Ext.refl _).alloc _)).ext ((Ext.refl _).drew)
              | exact (Blk.new' (by simp)).ext ((Ext.refl _).drew)
              | fail
          · exact (((Ext.refl _).alloc _).alloc _).drew
      case rest =>
        obtain ⟨ab, bb, hpa, hpb, hBa, hBb, hxc⟩ := hcut
        subst hpa hpb
        obtain ⟨wz, rfl⟩ : ∃ wz : World, wz = wc := ⟨_, rfl⟩
        have HXC := Lib.hid (HX.out.trans hxc)
        obtain ⟨a0, a1⟩ := blk2 hBa
        obtain ⟨b0, b1⟩ := blk2 hBb
        have HBA := Lib.hid hBa; have HBB := Lib.hid hBb
        clear c0 c1 d0 d1 hs1 hs2 hs3 hs4 hBa hBb hxc
        go_wp2_with fail
        refine (segment_any P0 Q0 _ HPB.out HQB.out).mono ?_
        rintro e w2 ⟨rfl, he2⟩
        have HX2 := Lib.hid (HXC.out.trans he2)
        have HBA2 := Lib.hid (HBA.out.ext he2); have HBB2 := Lib.hid (HBB.out.ext he2)
        clear a0 a1 b0 b1 he2
        obtain ⟨SG, hSG⟩ : ∃ SG, SG = seg P0 Q0 := ⟨_, rfl⟩
        rw [← hSG] at hseg1 hseg2 HSEG HPT ⊢
        clear hSG
        obtain ⟨F, hF⟩ : ∃ F, F = lenTo l k := ⟨_, rfl⟩
        rw [← hF] at hlt40 HSEG HPT ⊢
        have HF := Lib.hid hF; clear hF
        have hadd : IntKind.i64.wrap ((F : Int) + (SG : Int)) = (F : Int) + SG := IntWalk.i64_in _ (by omega)
        by_cases hc : s ≤ (F : Int) + SG
        · have HLB : Hid (locB l s k = true) := decide_eq_true (by rw [HSEG.out]; omega)
          have HLI := Lib.hid (locI_at (by rw [HL.out]; exact hlt) HALL.out HLB.out)
          have ht0 : 0 ≤ s - (F : Int) := by
            rcases Nat.eq_zero_or_pos k with h | h
            · have := HF.out; rw [h] at this; simp only [lenTo] at this; omega
            · have := of_decide_eq_false (HALL.out (k - 1) (by omega))
              rw [show k - 1 + 1 = k from by omega, ← HF.out] at this
              omega
          have ht1 : s - (F : Int) ≤ SG := by omega
          obtain ⟨T, hT⟩ : ∃ T, T = s - (F : Int) := ⟨_, rfl⟩
          have hsub : IntKind.i64.wrap (s - (F : Int)) = T := by rw [hT]; exact IntWalk.i64_in _ (by omega)
          rw [← hT] at ht0 ht1 HPT
          clear hT
          obtain ⟨P1, P2⟩ := P0
          obtain ⟨Q1, Q2⟩ := Q0
          obtain ⟨x1, x2, x3, x4⟩ := HPB.out
          obtain ⟨y1, y2, y3, y4⟩ := HQB.out
          simp only at x1 x2 x3 x4 y1 y2 y3 y4
          obtain ⟨u1, u2, u3, u4, u5⟩ := pt_exact (n := (SG : Int)) (by omega) (by omega) ht0 ht1 ⟨x1, x2⟩ ⟨y1, y2⟩
          obtain ⟨v1, v2, v3, v4, v5⟩ := pt_exact (n := (SG : Int)) (by omega) (by omega) ht0 ht1 ⟨x3, x4⟩ ⟨y3, y4⟩
          rw [← IntWalk.i64_left] at u1 u4 u5 v1 v4 v5
          have HPTe : Hid (ptS l s k = (P1 + rnd (T * (Q1 - P1)) SG, P2 + rnd (T * (Q2 - P2)) SG)) := HPT.out
          obtain ⟨M1, hM1⟩ : ∃ M, T * (Q1 - P1) = M := ⟨_, rfl⟩
          obtain ⟨M2, hM2⟩ : ∃ M, T * (Q2 - P2) = M := ⟨_, rfl⟩
          have u4' : IntKind.i64.wrap (T * (Q1 - P1)) = M1 := u4.trans hM1
          have v4' : IntKind.i64.wrap (T * (Q2 - P2)) = M2 := v4.trans hM2
          rw [hM1] at u2 u3 u5
          rw [hM2] at v2 v3 v5
          rw [hM1, hM2] at HPTe
          obtain ⟨R1, hR1⟩ : ∃ R, R = rnd M1 SG := ⟨_, rfl⟩
          obtain ⟨R2, hR2⟩ : ∃ R, R = rnd M2 SG := ⟨_, rfl⟩
          rw [← hR1] at u5 HPTe
          rw [← hR2] at v5 HPTe
          clear u4 v4
          have HC1 : Hid (∀ W : World, Calls Tryz.prog 62 #[.int .i64 M1, .int .i64 (SG : Int)] W fun e w' => e = .returned (.int .i64 R1) ∧ W = w') := fun W => by rw [hR1]; exact quot_any M1 SG W u2 u3 (by omega) (by omega)
          have HC2 : Hid (∀ W : World, Calls Tryz.prog 62 #[.int .i64 M2, .int .i64 (SG : Int)] W fun e w' => e = .returned (.int .i64 R2) ∧ W = w') := fun W => by rw [hR2]; exact quot_any M2 SG W v2 v3 (by omega) (by omega)
          clear hM1 hM2 hR1 hR2
          obtain ⟨a0, a1⟩ := blk2 HBA2.out
          obtain ⟨b0, b1⟩ := blk2 HBB2.out
          have z0 := fun z : After w2 => After.cell a0 z
          have z1 := fun z : After w2 => After.cell a1 z
          have z2 := fun z : After w2 => After.cell b0 z
          have z3 := fun z : After w2 => After.cell b1 z
          go_upto_region 13 with fail
          refine region_ext (by kernel_rfl) (by kernel_rfl) ?_
          repeat (first | go_big_quiet_step ((go_at_call 62; exact after_same (HC1.out _))) | (go_big_quiet_want; go_simp; go_big_quiet_on))
          refine wpQuiet_nil ?_
          rintro w3 ⟨⟨_, he3⟩, rfl⟩
          clear z0 z1 z2 z3
          have HX3 := Lib.hid (HX2.out.trans he3)
          obtain ⟨a0, a1⟩ := blk2 (HBA2.out.ext he3)
          obtain ⟨b0, b1⟩ := blk2 (HBB2.out.ext he3)
          have z0 := fun z : After w3 => After.cell a0 z
          have z1 := fun z : After w3 => After.cell a1 z
          have z2 := fun z : After w3 => After.cell b0 z
          have z3 := fun z : After w3 => After.cell b1 z
          clear he3
          go_upto_region 14 with fail
          refine region_ext (by kernel_rfl) (by kernel_rfl) ?_
          repeat (first | go_big_quiet_step ((go_at_call 62; exact after_same (HC2.out _))) | (go_big_quiet_want; go_simp; go_big_quiet_on))
          refine wpQuiet_nil ?_
          rintro w4 ⟨⟨_, he4⟩, rfl⟩
          clear z0 z1 z2 z3
          have HX4 := Lib.hid (HX3.out.trans he4)
          have HB4 := Lib.hid (HB1.out.ext HX4.out)
          clear he4 a0 a1 b0 b1 u1 u4' u5 v1 v4' v5 hsub
          have HAE : Hid (alongE l s = 0) := by
            show _ = _
            unfold alongE
            rw [if_neg (fun h => h HZ.out), if_neg]
            intro h
            rcases h with h | h
            · omega
            · unfold lengthN at h
              rw [if_neg (fun h => h HZ.out)] at h
              have h1 := lenTo_mono (l := l) (show k + 1 ≤ l.length - 1 by rw [HL.out]; omega)
              rw [HSEG.out] at h1
              omega
          have HAV : Hid (alongV l s = (P1 + R1, P2 + R2)) := by
            show _ = _
            unfold alongV
            rw [HAE.out, if_neg (by decide)]
            unfold alongS
            rw [HLI.out]; exact HPTe.out
          obtain ⟨r0, r1⟩ := blk2 HB4.out
          have f0 := HB4.out.frozen 0
          have f1 := HB4.out.frozen 1
          go_wp2_with fail
          refine bodyPost_ret (v := .tuple #[.int .i64 (k : Int), SV (P1 + R1, P2 + R2), .int .i64 0]) (by simp [results, Tryz.results38, go_sem, r0, r1]) rfl ⟨⟨k, by rw [HAE.out, HAV.out]⟩, ?_⟩
          exact ((HX1.out.trans HX4.out).setCell (Nat.le_refl _) _).setCell (Nat.le_refl _) _
        · have HLB : Hid (locB l s k = false) := decide_eq_false (by rw [HSEG.out]; omega)
          go_wp2_with fail
          go_roundw
          case rel => exact ⟨k + 1, by omega, by go_num, by rw [HSEG.out]; go_num, fun j hj => by
            rcases Nat.lt_succ_iff_lt_or_eq.1 hj with h | h
            · exact HALL.out j h
            · subst h; exact HLB.out, HX2.out⟩
          case measure => simp [intOf]; omega
    · obtain rfl : k = n - 1 := by omega
      have hlt' : ¬ ((n - 1 : Nat) : Int) < (n : Int) - 1 := by omega
      have HR : Hid (alongE l s = 3) := by
        show _ = _
        unfold alongE
        rw [if_neg (fun h => h HZ.out), if_pos]
        right
        unfold lengthN
        rw [if_neg (fun h => h HZ.out), HL.out]
        have := of_decide_eq_false (HALL.out (n - 1 - 1) (by omega))
        rw [show n - 1 - 1 + 1 = n - 1 from by omega] at this
        omega
      have HB2 := Lib.hid (HB1.out.ext HX.out)
      obtain ⟨r0, r1⟩ := blk2 HB2.out
      have f0 := HB2.out.frozen 0
      have f1 := HB2.out.frozen 1
      go_wp2_with fail
      refine bodyPost_ret (v := .tuple #[.int .i64 0, SV (0, 0), .int .i64 3]) (by simp [results, Tryz.results38, go_sem, r0, r1]) rfl (retLo_bad HR.out (by decide) ?_)
      exact (HXw.out.setCell (Nat.le_refl _) _).setCell (Nat.le_refl _) _
set_option maxRecDepth 100000 in
theorem along_any (A : Option Addr) (n c : Nat) (l : List Spot) (s : Int) (w : World) (ha : SpotsAt w A l) (hl : l.length = n) (hs : s ≤ 4000000000000000) :
    Calls Tryz.prog 23 #[.slice A n c, .int .i64 s] w fun e w' => e = .returned (.tuple #[SV (alongV l s), .int .i64 (alongE l s)]) ∧ Ext w w' := by
  have HA := Lib.hid ha; have HL := Lib.hid hl; clear ha hl
  go_enter Tryz.func23, Tryz.ntmps23
  go_wp2_with fail
  refine (locate_any A n c l s _ (HA.out.ext ((Ext.refl _).alloc _)) HL.out hs).mono ?_
  rintro e w1 ⟨⟨i, rfl⟩, he1⟩
  have HB1 : Hid (Blk 57 w1 w.heap.size [.int .i64 0, .int .i64 0]) := (Blk.new' rfl).ext he1
  have HX1 := Lib.hid (((Ext.refl w).alloc _).trans he1); clear he1
  obtain ⟨V, hV⟩ : ∃ V, V = alongV l s := ⟨_, rfl⟩
  obtain ⟨E, hE⟩ : ∃ E, E = alongE l s := ⟨_, rfl⟩
  rw [← hV, ← hE]
  have HV := Lib.hid hV; have HE := Lib.hid hE; clear hV hE
  obtain ⟨V1, V2⟩ := V
  obtain ⟨r0, r1⟩ := blk2 HB1.out
  have f0 := HB1.out.frozen 0
  have f1 := HB1.out.frozen 1
  have hlt : w.heap.size < w1.heap.size := HB1.out.lt
  go_wp2_with fail
  refine bodyPost_ret (v := .tuple #[SV (V1, V2), .int .i64 E]) (by simp [results, Tryz.results23, go_sem, r0, r1, hlt]) rfl ⟨by rw [HV.out, HE.out], ?_⟩
  exact (((HX1.out).setCell (Nat.le_refl _) _).setCell (Nat.le_refl _) _).alloc _
end Go.Proofs.YtliijigdbpmpaaaGreat
namespace Go.Proofs.YtliijigdbpmpaaaGreat
open Go.RowKit
def RetSp (w : World) (p : Pc) (m : Int) (e : Ending) (w' : World) : Prop :=
  ∃ v, e = .returned (.tuple #[v, .int .i64 (plE p m)]) ∧ (plE p m = 0 → OwnT 57 w' w.heap.size v (spL p m)) ∧ (plE p m ≠ 0 → v = .slice none 0 0) ∧ Ext w w'
set_option maxRecDepth 100000 in
set_option maxHeartbeats 3200000 in
theorem spots_any (a : PcA) (p : Pc) (m : Int) (w : World) (hp : PcAt w a p) :
    Calls Tryz.prog 9 #[a.val, .int .i64 m] w (RetSp w p m) := by
  have HC := Lib.hid (fun W (h : Ext w W) => placed_any a p m W (hp.ext h))
  have HP := Lib.hid hp; clear hp
  obtain ⟨nm, AE, nE, cE, gr, AN, nN, cN, AC, nC, cC, AW, nW, cW, mt⟩ := a
  have HLN : Hid (p.ns.length = nN) := HP.out.ln
  have HLE : Hid (p.es.length = nE) := HP.out.le
  have HN : Hid (SpotsAt w AN p.ns) := HP.out.n
  simp only [PcA.val] at HC ⊢
  obtain ⟨i0, hi0, hz0, hz1, hz2⟩ := info_parts spot_info
  go_enter Tryz.func9, Tryz.ntmps9
  go_wp2_with fail
  refine (HC.out _ ((Ext.refl _).alloc _)).mono ?_
  rintro e w1 ⟨v, u, rfl, h1, h2, he1⟩
  have HB1 : Hid (Blk 27 w1 w.heap.size [.string nm, .slice AE nE cE, .int .i64 gr, .slice AN nN cN, .slice AC nC cC, .slice AW nW cW, .bool mt]) := (Blk.new' rfl).ext he1
  have HX1 := Lib.hid (((Ext.refl w).alloc _).trans he1)
  by_cases hz : plE p m = 0
  rotate_left
  · obtain ⟨hv, hu⟩ := h2 hz
    subst hv; subst hu
    have hzb : (plE p m != 0) = true := by simp [hz]
    obtain ⟨E, hE⟩ : ∃ E, E = plE p m := ⟨_, rfl⟩
    rw [← hE] at hzb hz ⊢
    have HE := Lib.hid hE; have HZ := Lib.hid hz; clear hE h1 h2 hz he1
    go_wp2_with fail
    go_ret2
    exact ⟨_, by rw [← HE.out]; rfl, fun h => absurd (HE.out.trans h) HZ.out, fun _ => rfl, HX1.out⟩
  obtain ⟨hOI, hOE⟩ := h1 hz
  have HOK := Lib.hid (plE_zero.1 hz)
  obtain ⟨A1, c1', hvf, hI1, _⟩ := OwnI.slice' (n := nN) hOI (by rw [plL_len]; exact HLN.out)
  subst hvf
  obtain ⟨A2, c2', hvf, hE2, _, _⟩ := OwnE.slice' (n := nE) hOE (by rw [gradedE_len]; exact HLE.out)
  subst hvf
  have HI1 := Lib.hid hI1; have HE2 := Lib.hid hE2; have HPZ := Lib.hid hz
  rw [hz]
  clear h1 h2 hz hOI hOE hI1 hE2 he1
  have h16 : nN ≤ 16 := by rw [← HLN.out]; exact HOK.out.n
  obtain ⟨c0, c1, c2, c3, c4, c5, c6⟩ := blk7 HB1.out
  go_wp2_with fail
  clear c0 c1 c2 c3 c4 c5 c6
  go_loopw [9, 27] (fun v i wr => ∃ k : Nat, k ≤ nN ∧ i = .int .i64 k ∧ OwnT 57 wr w1.heap.size v (spTo p m k) ∧ Ext w1 wr) (fun _ i _ => nN - (intOf i).toNat)
  case atStart => exact ⟨0, Nat.zero_le _, rfl, World.ownsRow_nil _ _ _ _, Ext.refl _⟩
  case round =>
    obtain ⟨k, hk, rfl, ho, hx⟩ := hrel
    have hlk := spTo_len p m k
    obtain ⟨LK, hLK⟩ : ∃ LK, LK = spTo p m k := ⟨_, rfl⟩
    rw [← hLK] at ho hlk
    have HLKL := Lib.hid hlk
    have HLKE := Lib.hid hLK; have HO := Lib.hid ho; have HX := Lib.hid hx; clear hLK ho hx hlk
    obtain ⟨wr0, rfl⟩ : ∃ wr0 : World, wr0 = wr := ⟨_, rfl⟩
    have HXw := Lib.hid (HX1.out.trans HX.out)
    by_cases hlt : k < nN
    · have hkl : k < p.ns.length := by rw [HLN.out]; exact hlt
      have HNK := Lib.hid (HOK.out.i k hkl)
      have HSPK := Lib.hid (sp_ok HOK.out hkl)
      have HPB := Lib.hid (plV_bd HNK.out)
      obtain ⟨bn, on, hAN, n0, n1⟩ := (HN.out.ext HXw.out).g (k := k) hkl
      subst hAN
      obtain ⟨D, hD⟩ := Int.eq_ofNat_of_zero_le HNK.out.e0
      have hDl : D < p.es.length := by have := HNK.out.e1; omega
      have hDn : D < nE := by rw [← HLE.out]; exact hDl
      obtain ⟨at', hat⟩ : ∃ x, x = (gS p.ns k).2 := ⟨_, rfl⟩
      rw [hD] at n0
      rw [← hat] at n1
      have HDT : Hid ((gS p.ns k).1.toNat = D) := by show _ = _; rw [hD]; simp
      clear hat
      have hpl := cell_lt n0
      go_upto_region 8 with fail
      refine wp_at fun wq hWq => ?_
      have hNb : Blk 55 wq wr0.heap.size [.int .i64 (D : Int), .int .i64 at'] := by rw [hWq]; exact Blk.new' rfl
      have hxq : Ext wr0 wq := by rw [hWq]; exact (Ext.refl _).alloc _
      have HXq := Lib.hid (HX.out.trans hxq)
      have HXrq := Lib.hid hxq
      obtain ⟨m0, m1⟩ := blk2 hNb
      clear hWq hNb hxq n0 n1 hpl
      obtain ⟨nb, hnb⟩ : ∃ nb, nb = wr0.heap.size := ⟨_, rfl⟩
      rw [← hnb] at m0 m1 ⊢
      clear hnb
      obtain ⟨bg, og, LG, cG, hAG, g0, g1, hSG, _, _⟩ := (HE2.out.ext HXq.out).g (k := D) (by rw [gradedE_len]; exact hDl)
      subst hAG
      obtain ⟨bp, op, hAP, p0⟩ := (HI1.out.ext HXq.out).g (k := k) (by rw [plL_len]; exact hkl)
      subst hAP
      rw [plL_get hkl] at p0
      have HSPe : Hid (spS p m k = alongS (gE (gradedE p.es p.cs m) D).2 (plV p m k)) := by show _ = _; unfold spS; rw [HDT.out]
      have hAE0 := HSPK.out.1
      have hPB2 := HPB.out.2
      rw [HDT.out] at hAE0 hPB2
      have hPVle : plV p m k ≤ 4000000000000000 := by
        have := lengthN_bd (gE (gradedE p.es p.cs m) D).2
        unfold grdN at hPB2
        omega
      obtain ⟨lg, hlg⟩ : ∃ lg, lg = (gE (gradedE p.es p.cs m) D).2 := ⟨_, rfl⟩
      rw [← hlg] at g1 hSG HSPe hAE0
      clear hlg g0 hPB2
      obtain ⟨ng, hng⟩ : ∃ ng, ng = lg.length := ⟨_, rfl⟩
      rw [← hng] at g1
      obtain ⟨PV, hPV⟩ : ∃ PV, PV = plV p m k := ⟨_, rfl⟩
      rw [← hPV] at p0 HSPe hAE0 hPVle
      clear hPV
      obtain ⟨SP, hSP⟩ : ∃ SP, SP = spS p m k := ⟨_, rfl⟩
      rw [← hSP] at HSPe
      have HSPd := Lib.hid hSP; clear hSP
      have HAP : Hid (∀ W : World, Ext wq W → Calls Tryz.prog 23 #[.slice LG ng cG, .int .i64 PV] W fun e w' => e = .returned (.tuple #[SV SP, .int .i64 0]) ∧ Ext W w') := fun W h => by
        have := along_any LG ng cG lg PV W (hSG.ext h) hng.symm hPVle
        rw [hAE0] at this
        have e : alongV lg PV = SP := by unfold alongV; rw [hAE0, if_neg (by decide)]; exact HSPe.out.symm
        rwa [e] at this
      clear hSG hng hAE0 hPVle
      have hkk : (k : Int) < nN := by omega
      have hkk0 : (0 : Int) ≤ k := by omega
      have hDD : (D : Int) < nE := by omega
      have hDD0 : (0 : Int) ≤ D := by omega
      go_cut [12, 13] from 32 to 45 (fun pt ev wc => ∃ pb, pt = .pointer (some ⟨pb, 0, none⟩) ∧ ev = .int .i64 0 ∧ Blk 57 wc pb [.int .i64 SP.1, .int .i64 SP.2] ∧ Ext wq wc)
      case first =>
        have keep : ∀ W2 : World, Ext wq W2 → (Ext wq W2 ∧ W2.cell? ⟨nb, 0, none⟩ = some (.int .i64 (D : Int)) ∧ W2.cell? ⟨bg, og + D * 2 + 1, none⟩ = some (.slice LG ng cG) ∧ W2.cell? ⟨bp, op + k, none⟩ = some (.int .i64 PV)) := fun W2 hx => ⟨hx, hx.cell m0, hx.cell g1, hx.cell p0⟩
        have KEEP := Lib.hid keep; clear keep m0 m1 g1 p0
        go_region_held3 (fun W => Ext wq W ∧ W.cell? ⟨nb, 0, none⟩ = some (.int .i64 (D : Int)) ∧ W.cell? ⟨bg, og + D * 2 + 1, none⟩ = some (.slice LG ng cG) ∧ W.cell? ⟨bp, op + k, none⟩ = some (.int .i64 PV))
          (first | (with_reducible exact KEEP.out _ (Ext.setCell (Ext.setCell hx2 (p := ⟨wq.heap.size, 0, none⟩) (Nat.le_refl _) _) (p := ⟨wq.heap.size, 1, none⟩) (Nat.le_refl _) _)) | (with_reducible assumption) | (with_reducible exact KEEP.out _ (Ext.drew (Ext.refl _))) | (with_reducible exact KEEP.out _ (Ext.drew (Ext.alloc (Ext.refl _) _))) | (with_reducible exact KEEP.out _ hx2) | (with_reducible exact KEEP.out _ (Ext.alloc hx2 _)) | fail)
          (first
            | (go_at_call 23; (with_reducible refine (HAP.out wq.drew (Ext.drew (Ext.refl _))).mono ?_); rintro e w2 ⟨rfl, he2⟩; have hx2 : Ext wq w2 := (Ext.drew (Ext.refl _)).trans he2)
            | (go_at_call 23; (with_reducible refine (HAP.out (wq.alloc (.cells #[.int .i64 0, .int .i64 0] 57)).drew (Ext.drew (Ext.alloc (Ext.refl _) _))).mono ?_); rintro e w2 ⟨rfl, he2⟩; have hx2 : Ext wq w2 := (Ext.drew (Ext.alloc (Ext.refl _) _)).trans he2; have hB1 : Blk 57 w2 wq.heap.size [.int .i64 0, .int .i64 0] := Blk.ext (Blk.ext (Blk.new' rfl) (Ext.drew (Ext.refl _))) he2; obtain ⟨s0, s1⟩ := blk2 hB1; have e0 := hB1.frozen 0; have e1 := hB1.frozen 1; have HB1' := Lib.hid hB1; clear hB1)
            | fail)
        all_goals
          go_wp2_with fail
          go_meet
        all_goals first
          | exact ⟨w2.heap.size, rfl, rfl, Blk.new' rfl, hx2.alloc _⟩
          | exact ⟨wq.heap.size, rfl, rfl, (HB1'.out.set 0 (.int .i64 SP.1)).set 1 (.int .i64 SP.2), (hx2.setCell (Nat.le_refl _) _).setCell (Nat.le_refl _) _⟩
          | fail
      case rest =>
        obtain ⟨pb, hpb, hev, hBp, hxc⟩ := hcut
        subst hpb; subst hev
        clear m0 m1 g1 p0
        obtain ⟨wz, rfl⟩ : ∃ wz : World, wz = wc := ⟨_, rfl⟩
        have HXz := Lib.hid (HXq.out.trans hxc)
        have HOz := Lib.hid (own_ext HO.out (HXrq.out.trans hxc))
        obtain ⟨q0, q1⟩ := blk2 hBp
        have hbb : w1.heap.size ≤ wz.heap.size := HXz.out.size
        clear hBp hxc
        obtain ⟨Y1, Y2⟩ := SP
        simp only at q0 q1
        have hlk := HLKL.out
        have H63 : Hid (LK.length + 1 ≤ maxLen) := by show _ ≤ _; unfold maxLen; omega
        have H64 : Hid ((LK.length + 1) * 16 ≤ 140737488355328) := by show _ ≤ _; omega
        have HC6 : Hid (w1.heap.size ≤ (wz.alloc (.cells #[.int .i64 Y1, .int .i64 Y2] 57)).heap.size) := by show _ ≤ _; simp; omega
        clear hlk
        go_wp2_with (at_builtin; refine wpList_append_own _ rfl (.tmp 49) (.tmp 51) 24 rfl w1.heap.size 57 i0 (.agg #[.int .i64 0, .int .i64 0]) 2 16 Tryz.underlying24 hi0 hz0 hz1 hz2 rfl (by decide) _ LK.length (scells LK) rfl (World.ownsRow.alloc HOz.out _) ⟨wz.heap.size, 0, none⟩ 1 1 [.int .i64 Y1, .int .i64 Y2] rfl rfl (World.news_of_block (cs := #[.int .i64 Y1, .int .i64 Y2]) (t := 57) (fr := (0, 0)) (heap_alloc_new wz _)) (by simp [Value.oneCell']) H63.out H64.out HC6.out ?_)
        intro v' w4 hown' hgrow _
        have hO' : OwnT 57 w4 w1.heap.size v' (spTo p m (k + 1)) := by
          rw [spTo_succ, ← HLKE.out, ← HSPd.out]
          unfold OwnT
          rw [List.length_append, scells_append]
          exact hown'
        have hx' : Ext w1 w4 := (HXz.out.alloc _).grown hgrow (fun g hg => (World.ownsRow.lt HO.out g hg).1)
        have HO' := Lib.hid hO'; clear hO' hown' hgrow
        go_wp2_with fail
        go_roundw
        case rel => exact ⟨k + 1, by omega, by go_num, HO'.out, hx'⟩
        case measure => simp [intOf]; omega
    · obtain rfl : k = nN := by omega
      go_wp2_with fail
      go_ret2
      refine ⟨_, by rw [HPZ.out]; rfl, fun _ => ?_, fun h => absurd HPZ.out h, HXw.out⟩
      unfold spL
      rw [HLN.out, ← HLKE.out]
      exact own_base_le HO.out HX1.out.size
end Go.Proofs.YtliijigdbpmpaaaGreat
