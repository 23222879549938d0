/- the reference: garmentref21.Graded -/
import Derived.Deep.CutRange
import Derived.Deep.RegionHeld3
import Derived.Test.YtkigmpholnfkbaaGreatKRefM
namespace Go.Proofs.YtkigmpholnfkbaaGreat
open Go.RowKit
set_option maxRecDepth 100000 in
set_option maxHeartbeats 3200000 in
theorem rgraded_any (nm : ByteArray) (AE AN AC AW : Option Addr) (nE cE nN cN nC cC nW cW : Nat) (gr m : Int) (mt : Bool) (es : List Edge) (cs : List Spot) (w : World)
    (hE : EdgesAt w AE es) (hlE : es.length = nE) (hC : SpotsAt w AC cs) (hlC : cs.length = nC) (hnE : nE ≤ 1000) (hnC : nC ≤ 1000) :
    Calls Tryz.prog 60 #[.agg #[.string nm, .slice AE nE cE, .int .i64 gr, .slice AN nN cN, .slice AC nC cC, .slice AW nW cW, .bool mt], .int .i64 m] w (RetG w es cs m) := by
  have HLE := Lib.hid hlE; clear hlE
  have HLC := Lib.hid hlC; clear hlC
  have HE := Lib.hid hE; clear hE
  have HC := Lib.hid hC; clear hC
  cases hmb : decide (-100 ≤ m ∧ m ≤ 100)
  · have HR : Hid (gradedR es cs m = 3) := by show gradedR es cs m = 3; unfold gradedR; rw [if_pos hmb]
    go_enter Tryz.func60, Tryz.ntmps60
    go_wp2_with fail
    refine (rwith_any m 100 _ (by omega) (by omega)).mono ?_
    rintro e w1 ⟨rfl, rfl⟩
    rw [hmb]
    go_wp2_with fail
    go_ret2
    exact retG_bad HR.out (by decide) ((Ext.refl _).alloc _)
  have HM := Lib.hid hmb
  by_cases hnn : nC = nE
  rotate_left
  · have HR : Hid (gradedR es cs m = 1) := by show gradedR es cs m = 1; unfold gradedR; rw [if_neg (by rw [hmb]; decide), if_pos (by rw [HLE.out, HLC.out]; exact hnn)]
    have hnb : ((nC : Int) != nE) = true := by simp; omega
    go_enter Tryz.func60, Tryz.ntmps60
    go_wp2_with fail
    refine (rwith_any m 100 _ (by omega) (by omega)).mono ?_
    rintro e w1 ⟨rfl, rfl⟩
    rw [hmb]
    go_wp2_with fail
    go_ret2
    exact retG_bad HR.out (by decide) ((Ext.refl _).alloc _)
  subst hnn
  go_enter Tryz.func60, Tryz.ntmps60
  go_wp2_with fail
  refine (rwith_any m 100 _ (by omega) (by omega)).mono ?_
  rintro e w1 ⟨rfl, rfl⟩
  rw [hmb]
  clear hmb
  go_wp2_with fail
  refine wp_at fun W0 hW0 => ?_
  have hP : Blk 52 W0 w.heap.size [.string nm, .slice AE nC cE, .int .i64 gr, .slice AN nN cN, .slice AC nC cC, .slice AW nW cW, .bool mt] := by rw [hW0]; exact Blk.new' rfl
  have hx0 : Ext w W0 := by rw [hW0]; exact (Ext.refl _).alloc _
  have HP := Lib.hid hP; have HX0 := Lib.hid hx0; clear hW0 hP hx0
  go_loop [7] (fun i => ∃ k : Nat, k ≤ nC ∧ i = .int .i64 k ∧ allB (cornF cs) k = true) (fun i => nC - (intOf i).toNat)
  case atStart => exact ⟨0, Nat.zero_le _, rfl, rfl⟩
  case round =>
    obtain ⟨k, hk, rfl, ht⟩ := hrel
    have HT := Lib.hid ht; clear ht
    obtain ⟨_, p1, _, _, p4, _, _⟩ := blk7 HP.out
    by_cases hlt : k < nC
    · have hkl : k < cs.length := by rw [HLC.out]; exact hlt
      obtain ⟨b, off, hA, hc0, hc1⟩ := (HC.out.ext HX0.out).g hkl
      subst hA
      have hR : cornF cs k = false → gradedR es cs m = 3 := fun hf => by
        unfold gradedR
        rw [if_neg (by rw [HM.out]; decide), if_neg (by rw [HLE.out, HLC.out]; simp), if_pos]
        exact allB_false hkl hf
      have HR := Lib.hid hR; clear hR
      go_wp2_with fail
      refine (rwith_any _ 1000 _ (by omega) (by omega)).mono ?_
      rintro e w1 ⟨rfl, rfl⟩
      cases hp : decide (-1000 ≤ (gS cs k).1 ∧ (gS cs k).1 ≤ 1000)
      · have HQ := Lib.hid hp; clear hp
        go_wp2_with fail
        go_ret2
        exact retG_bad (HR.out (by unfold cornF; rw [HQ.out]; rfl)) (by decide) HX0.out
      have HQ1 := Lib.hid hp; clear hp
      go_wp2_with fail
      refine (rwith_any _ 1000 _ (by omega) (by omega)).mono ?_
      rintro e w1 ⟨rfl, rfl⟩
      cases hp : decide (-1000 ≤ (gS cs k).2 ∧ (gS cs k).2 ≤ 1000)
      · have HQ := Lib.hid hp; clear hp
        go_wp2_with fail
        go_ret2
        exact retG_bad (HR.out (by unfold cornF; rw [HQ1.out, HQ.out]; rfl)) (by decide) HX0.out
      have HQ := Lib.hid hp; clear hp
      go_wp2_with fail
      go_round
      case rel => exact ⟨k + 1, by omega, by go_num, allB_succ HT.out (by unfold cornF; rw [HQ1.out, HQ.out]; rfl)⟩
      case measure => simp [intOf]; omega
    · obtain rfl : k = nC := by omega
      clear hlt hk
      go_wp2_with fail
      refine (rocheck_any AE k cE es _ (HE.out.ext HX0.out) HLE.out).mono ?_
      rintro e w1 ⟨rfl, he1⟩
      have HX1 := Lib.hid he1; clear he1
      by_cases hz : ocheck es = 0
      rotate_left
      · have hzb : (ocheck es != 0) = true := by simp [hz]
        have HZ := Lib.hid hz; clear hz
        have HR : Hid (gradedR es cs m = ocheck es) := by
          show gradedR es cs m = _
          unfold gradedR
          rw [if_neg (by rw [HM.out]; decide), if_neg (by rw [HLE.out, HLC.out]; simp), if_neg (by rw [HLC.out, HT.out]; decide), if_pos HZ.out]
        go_wp2_with fail
        go_ret2
        exact retG_bad HR.out HZ.out (HX0.out.trans HX1.out)
      have hzb : (ocheck es != 0) = false := by rw [hz]; rfl
      have HZ := Lib.hid hz; clear hz
      obtain ⟨ho1, ho2, ho3⟩ := ocheck_ok HZ.out
      rw [HLE.out] at ho1 ho2
      have HO3 := Lib.hid ho3; clear ho3
      have hmB : -100 ≤ m ∧ m ≤ 100 := of_decide_eq_true HM.out
      have HMB := Lib.hid hmB; clear hmB
      obtain ⟨e0, he0', hy0, hy1, hy2⟩ := info_parts edge_info
      go_wp2_with fail
      clear p1 p4
      go_loopw [9, 10] (fun v i wr => ∃ j : Nat, j ≤ k ∧ i = .int .i64 j ∧ OwnE wr W0.heap.size v ((gradedE es cs m).take j) ∧ Ext W0 wr) (fun _ i _ => k - (intOf i).toNat)
      case atStart => exact ⟨0, Nat.zero_le _, rfl, OwnE.nil _ _, HX1.out⟩
      case round =>
        obtain ⟨j, hj, rfl, ho, hx⟩ := hrel
        have HO := Lib.hid ho; have HX := Lib.hid hx; clear ho hx
        by_cases hlt : j < k
        · have hm1 : (j + 1) % k < k := Nat.mod_lt _ (by omega)
          obtain ⟨b, off, hA, c0, c1⟩ := (HC.out.ext (HX0.out.trans HX.out)).g (k := j) (by rw [HLC.out]; exact hlt)
          subst hA
          obtain ⟨d0, d1⟩ := (HC.out.ext (HX0.out.trans HX.out)).at1 (k := (j + 1) % k) (by rw [HLC.out]; exact hm1)
          obtain ⟨_, p1, _, _, p4, _, _⟩ := blk7 (HP.out.ext HX.out)
          obtain ⟨A0, hA0⟩ : ∃ A0, A0 = gS cs j := ⟨_, rfl⟩
          obtain ⟨B0, hB0⟩ : ∃ B0, B0 = gS cs ((j + 1) % k) := ⟨_, rfl⟩
          rw [← hA0] at c0 c1
          rw [← hB0] at d0 d1
          have HA0 := Lib.hid hA0; have HB0 := Lib.hid hB0; clear hA0 hB0
          have hw1 : IntKind.i64.wrap ((j : Int) + 1) = (j : Int) + 1 := IntWalk.i64_in _ (by omega)
          have hnN : ¬ k = 0 := by omega
          have hnp : 0 < k := by omega
          obtain ⟨hq0, hq1, hq2⟩ := mod_idx j k 1 1 rfl (by omega)
          have hj3 : ((j : Int) + 1).tmod k = (((j + 1) % k : Nat) : Int) := by rw [Int.tmod_eq_emod_of_nonneg (by omega)]; omega
          go_upto_region 18 with fail
          go_cut [11, 12] from 54 to 98 (fun pa pb wc => ∃ ab bb, pa = .pointer (some ⟨ab, 0, none⟩) ∧ pb = .pointer (some ⟨bb, 0, none⟩) ∧ Blk 62 wc ab [.int .i64 A0.1, .int .i64 A0.2] ∧ Blk 62 wc bb [.int .i64 B0.1, .int .i64 B0.2] ∧ Ext wr wc ∧ wr.heap.size ≤ ab ∧ wr.heap.size ≤ bb)
          case first =>
            have keep : ∀ W1 : World, Ext wr W1 → (Ext wr W1 ∧ W1.cell? ⟨w.heap.size, 4, none⟩ = some (.slice (some ⟨b, off, none⟩) k cC) ∧ W1.cell? ⟨b, off + j * 2, none⟩ = some (.int .i64 A0.1) ∧ W1.cell? ⟨b, off + j * 2 + 1, none⟩ = some (.int .i64 A0.2) ∧ W1.cell? ⟨b, off + (j + 1) % k * 2, none⟩ = some (.int .i64 B0.1) ∧ W1.cell? ⟨b, off + (j + 1) % k * 2 + 1, none⟩ = some (.int .i64 B0.2)) := fun W1 hx => ⟨hx, hx.cell p4, hx.cell c0, hx.cell c1, hx.cell d0, hx.cell d1⟩
            have KEEP := Lib.hid keep; clear keep c0 c1 d0 d1 p1 p4
            go_region_held3 (fun W => Ext wr W ∧ W.cell? ⟨w.heap.size, 4, none⟩ = some (.slice (some ⟨b, off, none⟩) k cC) ∧ W.cell? ⟨b, off + j * 2, none⟩ = some (.int .i64 A0.1) ∧ W.cell? ⟨b, off + j * 2 + 1, none⟩ = some (.int .i64 A0.2) ∧ W.cell? ⟨b, off + (j + 1) % k * 2, none⟩ = some (.int .i64 B0.1) ∧ W.cell? ⟨b, off + (j + 1) % k * 2 + 1, none⟩ = some (.int .i64 B0.2))
              (first | assumption | exact KEEP.out _ (by repeat (first | exact Ext.refl _ | apply Ext.alloc | apply Ext.drew)) | fail)
              (first | fail)
            all_goals
              go_wp2_with fail
              go_meet
            all_goals
              refine ⟨_, _, rfl, rfl, ?_, ?_, ?_, ?_, ?_⟩
              · first
                  | exact ((Blk.new' rfl).ext ((Ext.refl _).alloc _)).ext ((Ext.refl _).drew)
                  | exact (Blk.new' (by simp)).ext ((Ext.refl _).drew)
                  | fail
              · first
                  | exact ((Blk.new' rfl).ext ((Ext.refl _).alloc _)).ext ((Ext.refl _).drew)
                  | exact (Blk.new' (by simp)).ext ((Ext.refl _).drew)
                  | fail
              · exact (((Ext.refl _).alloc _).alloc _).drew
              · simp
              · simp
          case rest =>
            obtain ⟨ab, bb, hpa, hpb, hBa, hBb, hxc, hga, hgb⟩ := hcut
            subst hpa hpb
            clear c0 c1 d0 d1 p1 p4 hw1 hj3 hq0 hq1 hq2
            have HBA := Lib.hid hBa; have HBB := Lib.hid hBb; have HXC := Lib.hid hxc; clear hBa hBb hxc
            obtain ⟨wz, rfl⟩ : ∃ wz : World, wz = wc := ⟨_, rfl⟩
            have HXz := Lib.hid (HX.out.trans HXC.out)
            obtain ⟨b2, off2, L, cL, hA2, g0, g1, hS, _, _⟩ := (HE.out.ext (HX0.out.trans HXz.out)).g (k := j) (by rw [HLE.out]; exact hlt)
            subst hA2
            obtain ⟨hl2, hl40⟩ := lens_of HO3.out (k := j) (by rw [HLE.out]; exact hlt)
            obtain ⟨mm, hmm⟩ : ∃ mm, (gE es j).2.length = mm + 1 := ⟨(gE es j).2.length - 1, by omega⟩
            rw [hmm] at g1 hl2 hl40
            obtain ⟨ln, hln⟩ : ∃ ln, ln = (gE es j).2 := ⟨_, rfl⟩
            obtain ⟨NM, hNM⟩ : ∃ NM, NM = (gE es j).1 := ⟨_, rfl⟩
            rw [← hln] at hS hmm
            rw [← hNM] at g0
            have HLN := Lib.hid hln; have HNM := Lib.hid hNM; have HMM := Lib.hid hmm
            have hbe : b2 < w.heap.size := by
              obtain ⟨b3, off3, _, _, h3, g3, _⟩ := HE.out.g (k := j) (by rw [HLE.out]; exact hlt)
              injection h3 with h3; injection h3 with h3
              rw [h3]; exact cell_lt g3
            have hS' : SpotsAt w L ln := by
              obtain ⟨b3, off3, L3, c3, h3, _, g4, hs3, _⟩ := HE.out.g (k := j) (by rw [HLE.out]; exact hlt)
              injection h3 with h3; injection h3 with h3 h4
              subst h3; subst h4
              have := (HX0.out.trans HXz.out).cell g4
              rw [g1] at this
              injection this with this
              injection this with t1
              rw [t1, hln]; exact hs3
            have HS := Lib.hid hS'
            obtain ⟨_, p1, _, _, _, _, _⟩ := blk7 (HP.out.ext HXz.out)
            obtain ⟨a0, a1⟩ := blk2 HBA.out
            obtain ⟨b0, b1⟩ := blk2 HBB.out
            obtain ⟨M, hM⟩ : ∃ M, M = mulS m A0 := ⟨_, rfl⟩
            obtain ⟨N, hN⟩ : ∃ N, N = mulS m B0 := ⟨_, rfl⟩
            have f1 : IntKind.i64.wrap (m * A0.1) = M.1 := by rw [hM]; unfold mulS; rw [IntWalk.i64_left]
            have f2 : IntKind.i64.wrap (m * A0.2) = M.2 := by rw [hM]; unfold mulS; rw [IntWalk.i64_left]
            have f3 : IntKind.i64.wrap (m * B0.1) = N.1 := by rw [hN]; unfold mulS; rw [IntWalk.i64_left]
            have f4 : IntKind.i64.wrap (m * B0.2) = N.2 := by rw [hN]; unfold mulS; rw [IntWalk.i64_left]
            have HMb : Hid (-100000 ≤ M.1 ∧ M.1 ≤ 100000 ∧ -100000 ≤ M.2 ∧ M.2 ≤ 100000) := by
              have h := mulS_bd HMB.out HT.out hlt
              rw [← HA0.out, ← hM] at h
              exact ⟨h.1.1, h.1.2, h.2.1, h.2.2⟩
            have HNb : Hid (-100000 ≤ N.1 ∧ N.1 ≤ 100000 ∧ -100000 ≤ N.2 ∧ N.2 ≤ 100000) := by
              have h := mulS_bd HMB.out HT.out hm1
              rw [← HB0.out, ← hN] at h
              exact ⟨h.1.1, h.1.2, h.2.1, h.2.2⟩
            have HMe := Lib.hid hM; have HNe := Lib.hid hN
            have hwl : W0.heap.size ≤ wz.heap.size := HXz.out.size
            have hw0 : w.heap.size < W0.heap.size := HP.out.lt
            have hwr : W0.heap.size ≤ wr.heap.size := HX.out.size
            have HPS0 := HO.out
            obtain ⟨ps, hps, hor⟩ := HPS0
            obtain ⟨EL, hEL⟩ : ∃ EL, EL = (gradedE es cs m).take j := ⟨_, rfl⟩
            rw [← hEL] at hps hor
            have hELl : EL.length ≤ 1000 := by rw [hEL, List.length_take]; omega
            have HPS := Lib.hid (hps.ext HXC.out); have HOR := Lib.hid (own_ext hor HXC.out); have HEL := Lib.hid hEL
            have HLT : Hid (∀ g, u9.ownBlock = some g → W0.heap.size ≤ g ∧ g < wr.heap.size) := fun g hg => World.ownsRow.lt hor g hg
            clear hEL hps hor hM hN hS hS' hln hNM hmm
            have start : Ext W0 wz ∧ wz.cell? ⟨w.heap.size, 1, none⟩ = some (.slice (some ⟨b2, off2, none⟩) k cE) ∧ wz.cell? ⟨b2, off2 + j * 2, none⟩ = some (.string NM) ∧ wz.cell? ⟨b2, off2 + j * 2 + 1, none⟩ = some (.slice L (mm + 1) cL) ∧ wz.cell? ⟨ab, 0, none⟩ = some (.int .i64 A0.1) ∧ wz.cell? ⟨ab, 1, none⟩ = some (.int .i64 A0.2) ∧ wz.cell? ⟨bb, 0, none⟩ = some (.int .i64 B0.1) ∧ wz.cell? ⟨bb, 1, none⟩ = some (.int .i64 B0.2) := ⟨HXz.out, p1, g0, g1, a0, a1, b0, b1⟩
            have START := Lib.hid start
            have keep : ∀ W W1 : World, (Ext W0 W ∧ W.cell? ⟨w.heap.size, 1, none⟩ = some (.slice (some ⟨b2, off2, none⟩) k cE) ∧ W.cell? ⟨b2, off2 + j * 2, none⟩ = some (.string NM) ∧ W.cell? ⟨b2, off2 + j * 2 + 1, none⟩ = some (.slice L (mm + 1) cL) ∧ W.cell? ⟨ab, 0, none⟩ = some (.int .i64 A0.1) ∧ W.cell? ⟨ab, 1, none⟩ = some (.int .i64 A0.2) ∧ W.cell? ⟨bb, 0, none⟩ = some (.int .i64 B0.1) ∧ W.cell? ⟨bb, 1, none⟩ = some (.int .i64 B0.2)) → Ext W W1 → (Ext W0 W1 ∧ W1.cell? ⟨w.heap.size, 1, none⟩ = some (.slice (some ⟨b2, off2, none⟩) k cE) ∧ W1.cell? ⟨b2, off2 + j * 2, none⟩ = some (.string NM) ∧ W1.cell? ⟨b2, off2 + j * 2 + 1, none⟩ = some (.slice L (mm + 1) cL) ∧ W1.cell? ⟨ab, 0, none⟩ = some (.int .i64 A0.1) ∧ W1.cell? ⟨ab, 1, none⟩ = some (.int .i64 A0.2) ∧ W1.cell? ⟨bb, 0, none⟩ = some (.int .i64 B0.1) ∧ W1.cell? ⟨bb, 1, none⟩ = some (.int .i64 B0.2)) := fun W W1 ⟨h0, h1, h2, h3, h4, h5, h6, h7⟩ hy => ⟨h0.trans hy, hy.cell h1, hy.cell h2, hy.cell h3, hy.cell h4, hy.cell h5, hy.cell h6, hy.cell h7⟩
            have KEEP := Lib.hid keep
            have keepg : ∀ W W1 : World, (Ext W0 W ∧ W.cell? ⟨w.heap.size, 1, none⟩ = some (.slice (some ⟨b2, off2, none⟩) k cE) ∧ W.cell? ⟨b2, off2 + j * 2, none⟩ = some (.string NM) ∧ W.cell? ⟨b2, off2 + j * 2 + 1, none⟩ = some (.slice L (mm + 1) cL) ∧ W.cell? ⟨ab, 0, none⟩ = some (.int .i64 A0.1) ∧ W.cell? ⟨ab, 1, none⟩ = some (.int .i64 A0.2) ∧ W.cell? ⟨bb, 0, none⟩ = some (.int .i64 B0.1) ∧ W.cell? ⟨bb, 1, none⟩ = some (.int .i64 B0.2)) → W.grownBy W1 u9.ownBlock → (Ext W0 W1 ∧ W1.cell? ⟨w.heap.size, 1, none⟩ = some (.slice (some ⟨b2, off2, none⟩) k cE) ∧ W1.cell? ⟨b2, off2 + j * 2, none⟩ = some (.string NM) ∧ W1.cell? ⟨b2, off2 + j * 2 + 1, none⟩ = some (.slice L (mm + 1) cL) ∧ W1.cell? ⟨ab, 0, none⟩ = some (.int .i64 A0.1) ∧ W1.cell? ⟨ab, 1, none⟩ = some (.int .i64 A0.2) ∧ W1.cell? ⟨bb, 0, none⟩ = some (.int .i64 B0.1) ∧ W1.cell? ⟨bb, 1, none⟩ = some (.int .i64 B0.2)) := fun W W1 ⟨h0, h1, h2, h3, h4, h5, h6, h7⟩ hg => by
              have hne : ∀ x, (x < W0.heap.size ∨ wr.heap.size ≤ x) → some x ≠ u9.ownBlock := fun x hx' e => by have := HLT.out x e.symm; omega
              exact ⟨h0.grown hg (fun g hg' => (HLT.out g hg').1), (World.cell?_of_block (hg.block _ (cell_lt h1) (hne _ (.inl hw0)))).trans h1, (World.cell?_of_block (hg.block _ (cell_lt h2) (hne b2 (.inl (by omega))))).trans h2, (World.cell?_of_block (hg.block _ (cell_lt h3) (hne b2 (.inl (by omega))))).trans h3, (World.cell?_of_block (hg.block _ (cell_lt h4) (hne ab (.inr hga)))).trans h4, (World.cell?_of_block (hg.block _ (cell_lt h5) (hne ab (.inr hga)))).trans h5, (World.cell?_of_block (hg.block _ (cell_lt h6) (hne bb (.inr hgb)))).trans h6, (World.cell?_of_block (hg.block _ (cell_lt h7) (hne bb (.inr hgb)))).trans h7⟩
            have KEEPG := Lib.hid keepg
            have getw : ∀ W : World, (Ext W0 W ∧ W.cell? ⟨w.heap.size, 1, none⟩ = some (.slice (some ⟨b2, off2, none⟩) k cE) ∧ W.cell? ⟨b2, off2 + j * 2, none⟩ = some (.string NM) ∧ W.cell? ⟨b2, off2 + j * 2 + 1, none⟩ = some (.slice L (mm + 1) cL) ∧ W.cell? ⟨ab, 0, none⟩ = some (.int .i64 A0.1) ∧ W.cell? ⟨ab, 1, none⟩ = some (.int .i64 A0.2) ∧ W.cell? ⟨bb, 0, none⟩ = some (.int .i64 B0.1) ∧ W.cell? ⟨bb, 1, none⟩ = some (.int .i64 B0.2)) → Ext W0 W := fun W h => h.1
            have GETW := Lib.hid getw
            have H63 : Hid (EL.length + 1 ≤ maxLen) := by show _ ≤ _; unfold maxLen; omega
            have H64 : Hid ((EL.length + 1) * 40 ≤ 140737488355328) := by show _ ≤ _; omega
            clear start keep keepg getw p1 g0 g1 a0 a1 b0 b1
            go_wp2_with fail
            go_region_held3 (fun W => Ext W0 W ∧ W.cell? ⟨w.heap.size, 1, none⟩ = some (.slice (some ⟨b2, off2, none⟩) k cE) ∧ W.cell? ⟨b2, off2 + j * 2, none⟩ = some (.string NM) ∧ W.cell? ⟨b2, off2 + j * 2 + 1, none⟩ = some (.slice L (mm + 1) cL) ∧ W.cell? ⟨ab, 0, none⟩ = some (.int .i64 A0.1) ∧ W.cell? ⟨ab, 1, none⟩ = some (.int .i64 A0.2) ∧ W.cell? ⟨bb, 0, none⟩ = some (.int .i64 B0.1) ∧ W.cell? ⟨bb, 1, none⟩ = some (.int .i64 B0.2))
              (first | (with_reducible assumption) | (with_reducible exact KEEP.out wz _ START.out (Ext.drew (Ext.refl _))) | (with_reducible exact KEEP.out wz _ START.out CH.out) | (with_reducible exact KEEP.out wz _ START.out hxm') | (with_reducible exact KEEPG.out _ _ (KEEP.out wz _ START.out CH.out) hgrow) | fail)
              (first
                | (refine step_append_lies _ (by rfl) (.tmp 72) (.tmp 97) 48 (by rfl) W0.heap.size 57 e0 (.agg #[.string ⟨#[]⟩, .slice none 0 0]) 2 40 Tryz.underlying48 he0' hy0 hy1 hy2 rfl (by decide) u9 _ (ecells ps) (by rfl)
                     (own_ext HOR.out CH.out) ⟨wm.heap.size, 0, none⟩ 1 1 [.string NM, .slice Am (mm + 1) cm] (by rfl) (by rfl)
                     (World.news_of_block (cs := #[.string NM, .slice Am (mm + 1) cm]) (t := 57) (fr := (0, 0)) (heap_alloc_new wm _)) (by simp [Value.oneCell']) (by decide) H63.out H64.out
                     (Nat.le_trans hwl (Ext.size CH.out)) (wm.heap.size + 1) (by simp) ?_
                   intro gg cap wn hown1 hgrow hat hltn)
                | (go_at_call 82; refine (rgraded1_any NM L mm cL ln M N _ (HS.out.ext (HX0.out.trans (GETW.out _ ‹_›))) HMM.out (by omega) (by omega) HMb.out HNb.out).mono ?_; rintro e wm ⟨vm, rfl, hom, hxm⟩; obtain ⟨Am, cm, hvm, _⟩ := OwnT.slice' (n := mm + 1) hom (by rw [movedS_len]; exact HMM.out); subst hvm; have hxm' : Ext wz wm := Ext.trans (Ext.drew (Ext.refl _)) hxm; have CH : Hid (Ext wz (wm.alloc (.cells #[.string NM, .slice Am (mm + 1) cm] 57))) := Ext.alloc hxm' _)
                | fail)
            have hO' : OwnE wn W0.heap.size (.slice (some ⟨gg, 0, none⟩) (EL.length + 1) cap) ((gradedE es cs m).take (j + 1)) := by
              have hor1 := own_ext HOR.out CH.out
              have hp1 := (HPS.out.ext CH.out).grown hor1 (by decide) hgrow
              have hvm1 : OwnS wn W0.heap.size (.slice Am (mm + 1) cm) (movedS ln M N) := ((OwnS.ext hom ((Ext.refl _).alloc _)).grown hor1 (by decide) hgrow).base_le (by simpa using hwl)
              rw [gradedE_take (by rw [HLE.out]; exact hlt), ← HEL.out]
              have e : gradedAt es cs m j = (NM, movedS ln M N) := by
                unfold gradedAt
                rw [HLC.out, Nat.mod_eq_of_lt hlt, ← HLN.out, ← HNM.out, ← HA0.out, ← HB0.out, ← HMe.out, ← HNe.out]
              rw [e]
              refine ⟨ps ++ [(NM, .slice Am (mm + 1) cm)], hp1.snoc ⟨rfl, hvm1⟩, ?_⟩
              rw [ecells_append, List.length_append]; exact hown1
            have hxn : Ext W0 wn := And.left ‹Ext W0 wn ∧ _›
            have HO' := Lib.hid hO'; clear hO' hown1 hgrow hat hltn
            go_wp2_with fail
            exact ⟨⟨j + 1, by omega, by go_num, HO'.out, hxn⟩, by simp [intOf]; omega⟩
        · obtain rfl : j = k := by omega
          have hT : (gradedE es cs m).take j = gradedE es cs m := List.take_of_length_le (by rw [gradedE_len, HLE.out]; omega)
          have hO1 := HO.out
          rw [hT] at hO1
          obtain ⟨VA, vc, hvf, hEA, _, _⟩ := hO1.slice' (n := j) (by rw [gradedE_len, HLE.out])
          subst hvf
          have HO1 := Lib.hid hO1; have HEA := Lib.hid hEA; clear hO1 hEA hT HO
          have HR : Hid (gradedR es cs m = ocheck (gradedE es cs m)) := by
            show gradedR es cs m = _
            unfold gradedR
            rw [if_neg (by rw [HM.out]; decide), if_neg (by rw [HLE.out, HLC.out]; simp), if_neg (by rw [HLC.out, HT.out]; decide), if_neg (by rw [HZ.out]; simp)]
          go_wp2_with fail
          refine (rocheck_any VA j vc (gradedE es cs m) _ HEA.out (by rw [gradedE_len, HLE.out])).mono ?_
          rintro e w2 ⟨rfl, he2⟩
          have HXF := Lib.hid ((HX0.out.trans HX.out).trans he2)
          have HO2 := Lib.hid (HO1.out.ext he2); clear he2
          by_cases hz2 : ocheck (gradedE es cs m) = 0
          · have hzb2 : (ocheck (gradedE es cs m) != 0) = false := by rw [hz2]; rfl
            have HZ2 := Lib.hid hz2; clear hz2
            go_wp2_with fail
            go_ret2
            exact ⟨.slice VA j vc, by rw [HR.out, HZ2.out]; rfl, fun _ => HO2.out.base_le HX0.out.size, fun h => absurd (HR.out.trans HZ2.out) h, HXF.out⟩
          · have hzb2 : (ocheck (gradedE es cs m) != 0) = true := by simp [hz2]
            have HZ2 := Lib.hid hz2; clear hz2
            go_wp2_with fail
            go_ret2
            exact retG_bad HR.out HZ2.out HXF.out
end Go.Proofs.YtkigmpholnfkbaaGreat
