/- SeamMoves returns true -/
import Derived.Deep.AppendLies
import Derived.Test.YtilkgocpkhionaaKLawCg
namespace Go.Proofs.Ytilkgocpkhionaa
open Go.RowKit
theorem map_img_succ {f : Bool} {q : Int} {d : Spot} {l : List Spot} {k : Nat} (h : k < l.length) : (l.take (k + 1)).map (imgS f q d) = (l.take k).map (imgS f q d) ++ [imgS f q d (gS l k)] := by
  rw [gS_take_succ h, List.map_append]; rfl
set_option maxRecDepth 100000 in
set_option maxHeartbeats 3200000 in
theorem movesL_any (A : Option Addr) (n ca : Nat) (l : List Spot) (f : Bool) (q : Int) (d : Spot) (w : World) (ha : SpotsAt w A l) (hla : l.length = n) :
    Calls Try.prog 8 #[.slice A n ca, TV f q, SV d] w fun e w' => e = .returned (.bool true) ∧ Ext w w' := by
  have HA := Lib.hid ha; have HLA := Lib.hid hla; clear ha hla
  obtain ⟨dx, dy⟩ := d
  by_cases h0 : n = 0
  · have hnb : ((n : Int) == 0) = true := by simp; omega
    go_enter Try.func8, Try.ntmps8
    go_wp2_with fail
    refine (alive_any _).mono ?_
    rintro e w3 ⟨rfl, he3⟩
    go_wp2_with fail
    go_ret
    exact ⟨rfl, (((Ext.refl _).alloc _).alloc _).trans he3⟩
  have hnb : ((n : Int) == 0) = false := by simp; omega
  by_cases h1 : 60 < n
  · go_enter Try.func8, Try.ntmps8
    go_wp2_with fail
    refine (alive_any _).mono ?_
    rintro e w3 ⟨rfl, he3⟩
    go_wp2_with fail
    go_ret
    exact ⟨rfl, (((Ext.refl _).alloc _).alloc _).trans he3⟩
  obtain ⟨i0, hi0, hz0, hz1, hz2⟩ := info_parts spot_info
  go_enter Try.func8, Try.ntmps8
  go_wp2_with fail
  clear hnb
  refine wp_at fun W0 hW0 => ?_
  have hTb : Blk 31 W0 w.heap.size [.bool f, .int .i64 q] := by rw [hW0]; exact (Blk.new' rfl).ext ((Ext.refl _).alloc _)
  have hDb : Blk 33 W0 (w.heap.size + 1) [.int .i64 dx, .int .i64 dy] := by rw [hW0]; exact Blk.new' (by simp)
  have hx0 : Ext w W0 := by rw [hW0]; exact ((Ext.refl _).alloc _).alloc _
  have HX0 := Lib.hid hx0; have HTB := Lib.hid hTb; have HDB := Lib.hid hDb; clear hW0 hx0 hTb hDb
  go_loopw [7, 8] (fun v i wr => ∃ k : Nat, k ≤ n ∧ i = .int .i64 k ∧ OwnT 33 wr W0.heap.size v ((l.take k).map (imgS f q (dx, dy))) ∧ Ext W0 wr) (fun _ i _ => n - (intOf i).toNat)
  case atStart => exact ⟨0, Nat.zero_le _, rfl, World.ownsRow_nil _ _ _ _, Ext.refl _⟩
  case round =>
    obtain ⟨k, hk, rfl, ho, hx⟩ := hrel
    obtain ⟨LK, hLK⟩ : ∃ LK, LK = (l.take k).map (imgS f q (dx, dy)) := ⟨_, rfl⟩
    rw [← hLK] at ho
    have hlk : LK.length ≤ n := by rw [hLK, List.length_map, List.length_take, HLA.out]; omega
    have HLKE := Lib.hid hLK; have HO := Lib.hid ho; have HX := Lib.hid hx; clear hLK ho hx
    obtain ⟨wq, rfl⟩ : ∃ wq : World, wq = wr := ⟨_, rfl⟩
    by_cases hlt : k < n
    · have hkl : k < l.length := by rw [HLA.out]; exact hlt
      obtain ⟨ba, oa, hA, c0, c1⟩ := (HA.out.ext (HX0.out.trans HX.out)).g (k := k) hkl
      subst hA
      have HTq := Lib.hid (HTB.out.ext HX.out)
      obtain ⟨I, hI⟩ : ∃ I, I = applyT f q (gS l k) := ⟨_, rfl⟩
      have HI := Lib.hid hI; clear hI
      go_upto_region 7 with fail
      go_cut [9] from 30 to 35 (fun pt wc => ∃ pb, pt = .pointer (some ⟨pb, 0, none⟩) ∧ Blk 33 wc pb [.int .i64 I.1, .int .i64 I.2] ∧ Ext wq wc)
      case first =>
        obtain ⟨t0, t1⟩ := blk2 HTq.out
        have keep : ∀ W2 : World, Ext wq W2 → (Ext wq W2 ∧ W2.cell? ⟨w.heap.size, 0, none⟩ = some (.bool f) ∧ W2.cell? ⟨w.heap.size, 1, none⟩ = some (.int .i64 q) ∧ W2.cell? ⟨ba, oa + k * 2, none⟩ = some (.int .i64 (gS l k).1) ∧ W2.cell? ⟨ba, oa + k * 2 + 1, none⟩ = some (.int .i64 (gS l k).2)) := fun W2 hx => ⟨hx, hx.cell t0, hx.cell t1, hx.cell c0, hx.cell c1⟩
        have KEEP := Lib.hid keep; clear keep t0 t1 c0 c1
        have HAP : Hid (∀ W : World, Calls Try.prog 23 #[TV f q, SV (gS l k)] W fun e w' => e = .returned (SV I) ∧ Ext W w') := fun W => by rw [HI.out]; exact rapply_any f q (gS l k) W
        go_region_held3 (fun W => Ext wq W ∧ W.cell? ⟨w.heap.size, 0, none⟩ = some (.bool f) ∧ W.cell? ⟨w.heap.size, 1, none⟩ = some (.int .i64 q) ∧ W.cell? ⟨ba, oa + k * 2, none⟩ = some (.int .i64 (gS l k).1) ∧ W.cell? ⟨ba, oa + k * 2 + 1, none⟩ = some (.int .i64 (gS l k).2))
          (first | (with_reducible exact KEEP.out _ (Ext.setCell (Ext.setCell hx2 (p := ⟨wq.heap.size, 0, none⟩) (Nat.le_refl _) _) (p := ⟨wq.heap.size, 1, none⟩) (Nat.le_refl _) _)) | (with_reducible assumption) | (with_reducible exact KEEP.out _ (Ext.drew (Ext.refl _))) | (with_reducible exact KEEP.out _ (Ext.drew (Ext.alloc (Ext.refl _) _))) | (with_reducible exact KEEP.out _ hx2) | (with_reducible exact KEEP.out _ (Ext.alloc hx2 _)) | fail)
          (first
            | (go_at_call 23; (with_reducible refine (HAP.out wq.drew).mono ?_); rintro e w2 ⟨rfl, he2⟩; have hx2 : Ext wq w2 := (Ext.drew (Ext.refl _)).trans he2)
            | (go_at_call 23; (with_reducible refine (HAP.out (wq.alloc (.cells #[.int .i64 0, .int .i64 0] 33)).drew).mono ?_); rintro e w2 ⟨rfl, he2⟩; have hx2 : Ext wq w2 := (Ext.drew (Ext.alloc (Ext.refl _) _)).trans he2; have hB1 : Blk 33 w2 wq.heap.size [.int .i64 0, .int .i64 0] := Blk.ext (Blk.ext (Blk.new' rfl) (Ext.drew (Ext.refl _))) he2; obtain ⟨s0, s1⟩ := blk2 hB1; have e0 := hB1.frozen 0; have e1 := hB1.frozen 1; have HB1 := Lib.hid hB1; clear hB1)
            | fail)
        all_goals
          go_wp2_with fail
          go_meet
        case rel => exact ⟨w2.heap.size, rfl, Blk.new' rfl, hx2.alloc _⟩
        case rel => exact ⟨wq.heap.size, rfl, (HB1.out.set 0 (.int .i64 I.1)).set 1 (.int .i64 I.2), (hx2.setCell (Nat.le_refl _) _).setCell (Nat.le_refl _) _⟩
      case rest =>
        obtain ⟨pb, hpb, hBp, hxc⟩ := hcut
        subst hpb
        clear c0 c1
        obtain ⟨wz, rfl⟩ : ∃ wz : World, wz = wc := ⟨_, rfl⟩
        have HXz := Lib.hid (HX.out.trans hxc)
        have HOz := Lib.hid (own_ext HO.out hxc)
        obtain ⟨p0, p1⟩ := blk2 hBp
        obtain ⟨d0, d1⟩ := blk2 (HDB.out.ext HXz.out)
        have hbb : W0.heap.size ≤ wz.heap.size := HXz.out.size
        clear hBp hxc
        obtain ⟨Y1, hY1⟩ : ∃ Y1, wrap64 (I.1 + dx) = Y1 := ⟨_, rfl⟩
        obtain ⟨Y2, hY2⟩ : ∃ Y2, wrap64 (I.2 + dy) = Y2 := ⟨_, rfl⟩
        have HY : Hid (imgS f q (dx, dy) (gS l k) = (Y1, Y2)) := by show _ = _; unfold imgS; rw [← HI.out, ← hY1, ← hY2]
        have H63 : Hid (LK.length + 1 ≤ maxLen) := by show _ ≤ _; unfold maxLen; omega
        have H64 : Hid ((LK.length + 1) * 16 ≤ 140737488355328) := by show _ ≤ _; omega
        have HC6 : Hid (W0.heap.size ≤ (wz.alloc (.cells #[.int .i64 Y1, .int .i64 Y2] 33)).heap.size) := by show _ ≤ _; simp; omega
        go_wp2_with (at_builtin; simp only [hY1, hY2]; refine wpList_append_own _ rfl (.tmp 36) (.tmp 48) 29 rfl W0.heap.size 33 i0 (.agg #[.int .i64 0, .int .i64 0]) 2 16 Try.underlying29 hi0 hz0 hz1 hz2 rfl (by decide) _ LK.length (scells LK) rfl (World.ownsRow.alloc HOz.out _) ⟨wz.heap.size, 0, none⟩ 1 1 [.int .i64 Y1, .int .i64 Y2] rfl rfl (World.news_of_block (cs := #[.int .i64 Y1, .int .i64 Y2]) (t := 33) (fr := (0, 0)) (heap_alloc_new wz _)) (by simp [Value.oneCell']) H63.out H64.out HC6.out ?_)
        intro v' w4 hown' hgrow _
        have hO' : OwnT 33 w4 W0.heap.size v' ((l.take (k + 1)).map (imgS f q (dx, dy))) := by
          rw [map_img_succ hkl, ← HLKE.out, HY.out]
          unfold OwnT
          rw [List.length_append, scells_append]
          exact hown'
        have hx' : Ext W0 w4 := (HXz.out.alloc _).grown hgrow (fun g hg => (World.ownsRow.lt HO.out g hg).1)
        have HO' := Lib.hid hO'; clear hO' hown' hgrow
        go_wp2_with fail
        go_roundw
        case rel => exact ⟨k + 1, by omega, by go_num, HO'.out, hx'⟩
        case measure => simp [intOf]; omega
    · obtain rfl : k = n := by omega
      obtain ⟨M, hM⟩ : ∃ M, M = l.map (imgS f q (dx, dy)) := ⟨_, rfl⟩
      have hLM : LK = M := by rw [HLKE.out, hM, List.take_of_length_le (by rw [HLA.out]; exact Nat.le_refl _)]
      subst hLM
      have hMl : LK.length = k := by rw [hM, List.length_map, HLA.out]
      have hMg : ∀ i, i < l.length → gS LK i = imgS f q (dx, dy) (gS l i) := fun i hi => by rw [hM]; exact gS_map hi
      have hc8 : cgN l LK < 8 := cgN_lt (cgI8_lt f q) (cgB_img (by rw [HLA.out]; exact h0) hMg)
      have HIMG : Hid (∀ i, i < k → imgS (cgF (cgN l LK)) (cgQ (cgN l LK)) (cgD l LK (cgN l LK)) (gS l i) = gS LK i) := fun i hi => cgN_img hc8 (by rw [HLA.out]; exact hi)
      obtain ⟨hq0, hq3⟩ := cgQ_range (cgN l LK)
      obtain ⟨VA, vc, hvf, hSM, _⟩ := OwnT.slice' HO.out hMl
      subst hvf
      have HSM := Lib.hid hSM; have HML := Lib.hid hMl
      have HCOND : Hid (l.length = LK.length ∧ l.length ≠ 0 ∧ cgN l LK < 8) := ⟨by rw [HLA.out, hMl], by rw [HLA.out]; exact h0, hc8⟩
      clear hSM hMl hM hMg hc8 HLKE hlk HO
      have HXw := Lib.hid (HX0.out.trans HX.out)
      go_wp2_with fail
      refine (congruent_any A VA k k ca vc l LK _ (HA.out.ext HXw.out) HSM.out HLA.out HML.out (by omega)).mono ?_
      rintro e w1 ⟨rfl, he1⟩
      rw [if_pos HCOND.out]
      obtain ⟨f2, hf2⟩ : ∃ f2, f2 = cgF (cgN l LK) := ⟨_, rfl⟩
      obtain ⟨q2, hq2⟩ : ∃ q2, q2 = cgQ (cgN l LK) := ⟨_, rfl⟩
      obtain ⟨D, hD⟩ : ∃ D, D = cgD l LK (cgN l LK) := ⟨_, rfl⟩
      rw [← hf2, ← hq2, ← hD] at HIMG ⊢
      rw [← hq2] at hq0 hq3
      clear hf2 hq2 hD HCOND
      obtain ⟨D1, D2⟩ := D
      have hq0' : ¬ q2 < 0 := by omega
      have hq3' : ¬ 3 < q2 := by omega
      go_upto_region 10 with fail
      refine wp_at fun W2 hW2 => ?_
      have hT2 : Blk 31 W2 w1.heap.size [.bool f2, .int .i64 q2] := by rw [hW2]; exact (Blk.new' rfl).ext ((Ext.refl _).alloc _)
      have hD2 : Blk 33 W2 (w1.heap.size + 1) [.int .i64 D1, .int .i64 D2] := by rw [hW2]; exact Blk.new' (by simp)
      have hx2 : Ext w1 W2 := by rw [hW2]; exact ((Ext.refl _).alloc _).alloc _
      have HT2 := Lib.hid hT2; have HD2 := Lib.hid hD2; have HXq2 := Lib.hid (he1.trans hx2); have HX2 := Lib.hid (HXw.out.trans (he1.trans hx2))
      clear hW2 hT2 hD2 hx2 he1
      obtain ⟨tb, htb⟩ : ∃ tb, tb = w1.heap.size := ⟨_, rfl⟩
      rw [← htb] at HT2 HD2 ⊢
      clear htb
      obtain ⟨t0, t1⟩ := blk2 HT2.out
      go_wp2_with fail
      clear t0 t1
      go_loopw [13] (fun i wr => ∃ j : Nat, j ≤ k ∧ i = .int .i64 j ∧ Ext W2 wr) (fun i _ => k - (intOf i).toNat)
      case atStart => exact ⟨0, Nat.zero_le _, rfl, Ext.refl _⟩
      case round =>
        obtain ⟨j, hj, rfl, hx⟩ := hrel
        have HXj := Lib.hid hx; clear hx
        obtain ⟨wu, rfl⟩ : ∃ wu : World, wu = wr := ⟨_, rfl⟩
        have HXu := Lib.hid (HX2.out.trans HXj.out)
        by_cases hjl : j < k
        · obtain ⟨ba, oa, hA, c0, c1⟩ := (HA.out.ext HXu.out).g (k := j) (by rw [HLA.out]; exact hjl)
          subst hA
          have HTu := Lib.hid (HT2.out.ext HXj.out)
          obtain ⟨I, hI⟩ : ∃ I, I = applyT f2 q2 (gS l j) := ⟨_, rfl⟩
          have HI := Lib.hid hI; clear hI
          go_upto_region 15 with fail
          go_cut [14] from 75 to 80 (fun pt wc => ∃ pb, pt = .pointer (some ⟨pb, 0, none⟩) ∧ Blk 33 wc pb [.int .i64 I.1, .int .i64 I.2] ∧ Ext wu wc)
          case first =>
            obtain ⟨t0, t1⟩ := blk2 HTu.out
            have keep : ∀ W2 : World, Ext wu W2 → (Ext wu W2 ∧ W2.cell? ⟨tb, 0, none⟩ = some (.bool f2) ∧ W2.cell? ⟨tb, 1, none⟩ = some (.int .i64 q2) ∧ W2.cell? ⟨ba, oa + j * 2, none⟩ = some (.int .i64 (gS l j).1) ∧ W2.cell? ⟨ba, oa + j * 2 + 1, none⟩ = some (.int .i64 (gS l j).2)) := fun W2 hx => ⟨hx, hx.cell t0, hx.cell t1, hx.cell c0, hx.cell c1⟩
            have KEEP := Lib.hid keep; clear keep t0 t1 c0 c1
            have HAP : Hid (∀ W : World, Calls Try.prog 23 #[TV f2 q2, SV (gS l j)] W fun e w' => e = .returned (SV I) ∧ Ext W w') := fun W => by rw [HI.out]; exact rapply_any f2 q2 (gS l j) W
            go_region_held3 (fun W => Ext wu W ∧ W.cell? ⟨tb, 0, none⟩ = some (.bool f2) ∧ W.cell? ⟨tb, 1, none⟩ = some (.int .i64 q2) ∧ W.cell? ⟨ba, oa + j * 2, none⟩ = some (.int .i64 (gS l j).1) ∧ W.cell? ⟨ba, oa + j * 2 + 1, none⟩ = some (.int .i64 (gS l j).2))
              (first | (with_reducible exact KEEP.out _ (Ext.setCell (Ext.setCell hx2 (p := ⟨wu.heap.size, 0, none⟩) (Nat.le_refl _) _) (p := ⟨wu.heap.size, 1, none⟩) (Nat.le_refl _) _)) | (with_reducible assumption) | (with_reducible exact KEEP.out _ (Ext.drew (Ext.refl _))) | (with_reducible exact KEEP.out _ (Ext.drew (Ext.alloc (Ext.refl _) _))) | (with_reducible exact KEEP.out _ hx2) | (with_reducible exact KEEP.out _ (Ext.alloc hx2 _)) | fail)
              (first
                | (go_at_call 23; (with_reducible refine (HAP.out wu.drew).mono ?_); rintro e w2 ⟨rfl, he2⟩; have hx2 : Ext wu w2 := (Ext.drew (Ext.refl _)).trans he2)
                | (go_at_call 23; (with_reducible refine (HAP.out (wu.alloc (.cells #[.int .i64 0, .int .i64 0] 33)).drew).mono ?_); rintro e w2 ⟨rfl, he2⟩; have hx2 : Ext wu w2 := (Ext.drew (Ext.alloc (Ext.refl _) _)).trans he2; have hB1 : Blk 33 w2 wu.heap.size [.int .i64 0, .int .i64 0] := Blk.ext (Blk.ext (Blk.new' rfl) (Ext.drew (Ext.refl _))) he2; obtain ⟨s0, s1⟩ := blk2 hB1; have e0 := hB1.frozen 0; have e1 := hB1.frozen 1; have HB1 := Lib.hid hB1; clear hB1)
                | fail)
            all_goals
              go_wp2_with fail
              go_meet
            case rel => exact ⟨w2.heap.size, rfl, Blk.new' rfl, hx2.alloc _⟩
            case rel => exact ⟨wu.heap.size, rfl, (HB1.out.set 0 (.int .i64 I.1)).set 1 (.int .i64 I.2), (hx2.setCell (Nat.le_refl _) _).setCell (Nat.le_refl _) _⟩
          case rest =>
            obtain ⟨pb, hpb, hBp, hxc⟩ := hcut
            subst hpb
            clear c0 c1
            obtain ⟨wz, rfl⟩ : ∃ wz : World, wz = wc := ⟨_, rfl⟩
            have HXz := Lib.hid (HXj.out.trans hxc)
            obtain ⟨i1, i2⟩ := blk2 hBp
            obtain ⟨d0, d1⟩ := blk2 (HD2.out.ext HXz.out)
            obtain ⟨bb, ob, hB, g0, g1⟩ := (HSM.out.ext (HXq2.out.trans HXz.out)).g (k := j) (by rw [HML.out]; exact hjl)
            subst hB
            clear hBp hxc
            have hq := HIMG.out j hjl
            unfold imgS at hq
            rw [← HI.out] at hq
            have q1 : (wrap64 (I.1 + D1) != (gS LK j).1) = false := by rw [← hq]; simp
            have q2' : (wrap64 (I.2 + D2) != (gS LK j).2) = false := by rw [← hq]; simp
            clear hq
            have z0 := fun z : After wz => After.cell i1 z
            have z1 := fun z : After wz => After.cell i2 z
            have z2 := fun z : After wz => After.cell d0 z
            have z3 := fun z : After wz => After.cell d1 z
            have z4 := fun z : After wz => After.cell g0 z
            have z5 := fun z : After wz => After.cell g1 z
            go_upto_region 16 with fail
            refine region_ext (by kernel_rfl) (by kernel_rfl) ?_
            repeat (first | go_big_quiet_step (fail) | (go_big_quiet_want; go_simp; go_big_quiet_on))
            refine wpQuiet_nil ?_
            rintro w3 ⟨⟨_, he⟩, rfl⟩
            clear z0 z1 z2 z3 z4 z5 q1 q2' i1 i2 d0 d1 g0 g1
            go_wp2_with fail
            go_roundw
            case rel => exact ⟨j + 1, by omega, by go_num, HXz.out.trans he⟩
            case measure => simp [intOf]; omega
        · obtain rfl : j = k := by omega
          go_wp2_with fail
          refine (alive_any _).mono ?_
          rintro e w3 ⟨rfl, he3⟩
          go_wp2_with fail
          go_ret
          exact ⟨rfl, HXu.out.trans he3⟩
end Go.Proofs.Ytilkgocpkhionaa
