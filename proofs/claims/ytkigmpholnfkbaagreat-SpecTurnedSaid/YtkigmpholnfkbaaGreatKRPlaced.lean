/- the reference: garmentref23.Placed -/
import Derived.Deep.CutRange
import Derived.Deep.RegionHeld3
import Derived.Deep.CutBlock
import Derived.Test.YtkigmpholnfkbaaGreatKRefM
import Derived.Test.YtkigmpholnfkbaaGreatKPlaced
/- the reference: garmentref21.Graded -/
namespace Go.Proofs.YtkigmpholnfkbaaGreat
open Go.RowKit
set_option maxRecDepth 100000 in
set_option maxHeartbeats 3200000 in
theorem rgraded_any (nm : ByteArray) (AE AN AC AW : Option Addr) (nE cE nN cN nC cC nW cW : Nat) (gr m : Int) (mt : Bool) (es : List Edge) (cs : List Spot) (w : World)
    (hE : EdgesAt w AE es) (hlE : es.length = nE) (hC : SpotsAt w AC cs) (hlC : cs.length = nC) (hnE : nE ≤ 1000) (hnC : nC ≤ 1000) :
    Calls Tryz.prog 60 #[.agg #[.string nm, .slice AE nE cE, .int .i64 gr, .slice AN nN cN, .slice AC nC cC, .slice AW nW cW, .bool mt], .int .i64 m] w (RetG w es cs m) := by
  have HLE := Lib.hid hlE; clear hlE
  have HLC := Lib.hid hlC; clear hlC
  have HE := Lib.hid hE; clear hE
  have HC := Lib.hid hC; clear hC
  cases hmb : decide (-100 ≤ m ∧ m ≤ 100)
  · have HR : Hid (gradedR es cs m = 3) := by show gradedR es cs m = 3; unfold gradedR; rw [if_pos hmb]
    go_enter Tryz.func60, Tryz.ntmps60
    go_wp2_with fail
    refine (rwith_any m 100 _ (by omega) (by omega)).mono ?_
    rintro e w1 ⟨rfl, rfl⟩
    rw [hmb]
    go_wp2_with fail
    go_ret2
    exact retG_bad HR.out (by decide) ((Ext.refl _).alloc _)
  have HM := Lib.hid hmb
  by_cases hnn : nC = nE
  rotate_left
  · have HR : Hid (gradedR es cs m = 1) := by show gradedR es cs m = 1; unfold gradedR; rw [if_neg (by rw [hmb]; decide), if_pos (by rw [HLE.out, HLC.out]; exact hnn)]
    have hnb : ((nC : Int) != nE) = true := by simp; omega
    go_enter Tryz.func60, Tryz.ntmps60
    go_wp2_with fail
    refine (rwith_any m 100 _ (by omega) (by omega)).mono ?_
    rintro e w1 ⟨rfl, rfl⟩
    rw [hmb]
    go_wp2_with fail
    go_ret2
    exact retG_bad HR.out (by decide) ((Ext.refl _).alloc _)
  subst hnn
  go_enter Tryz.func60, Tryz.ntmps60
  go_wp2_with fail
  refine (rwith_any m 100 _ (by omega) (by omega)).mono ?_
  rintro e w1 ⟨rfl, rfl⟩
  rw [hmb]
  clear hmb
  go_wp2_with fail
  refine wp_at fun W0 hW0 => ?_
  have hP : Blk 52 W0 w.heap.size [.string nm, .slice AE nC cE, .int .i64 gr, .slice AN nN cN, .slice AC nC cC, .slice AW nW cW, .bool mt] := by rw [hW0]; exact Blk.new' rfl
  have hx0 : Ext w W0 := by rw [hW0]; exact (Ext.refl _).alloc _
  have HP := Lib.hid hP; have HX0 := Lib.hid hx0; clear hW0 hP hx0
  go_loop [7] (fun i => ∃ k : Nat, k ≤ nC ∧ i = .int .i64 k ∧ allB (cornF cs) k = true) (fun i => nC - (intOf i).toNat)
  case atStart => exact ⟨0, Nat.zero_le _, rfl, rfl⟩
  case round =>
    obtain ⟨k, hk, rfl, ht⟩ := hrel
    have HT := Lib.hid ht; clear ht
    obtain ⟨_, p1, _, _, p4, _, _⟩ := blk7 HP.out
    by_cases hlt : k < nC
    · have hkl : k < cs.length := by rw [HLC.out]; exact hlt
      obtain ⟨b, off, hA, hc0, hc1⟩ := (HC.out.ext HX0.out).g hkl
      subst hA
      have hR : cornF cs k = false → gradedR es cs m = 3 := fun hf => by
        unfold gradedR
        rw [if_neg (by rw [HM.out]; decide), if_neg (by rw [HLE.out, HLC.out]; simp), if_pos]
        exact allB_false hkl hf
      have HR := Lib.hid hR; clear hR
      go_wp2_with fail
      refine (rwith_any _ 1000 _ (by omega) (by omega)).mono ?_
      rintro e w1 ⟨rfl, rfl⟩
      cases hp : decide (-1000 ≤ (gS cs k).1 ∧ (gS cs k).1 ≤ 1000)
      · have HQ := Lib.hid hp; clear hp
        go_wp2_with fail
        go_ret2
        exact retG_bad (HR.out (by unfold cornF; rw [HQ.out]; rfl)) (by decide) HX0.out
      have HQ1 := Lib.hid hp; clear hp
      go_wp2_with fail
      refine (rwith_any _ 1000 _ (by omega) (by omega)).mono ?_
      rintro e w1 ⟨rfl, rfl⟩
      cases hp : decide (-1000 ≤ (gS cs k).2 ∧ (gS cs k).2 ≤ 1000)
      · have HQ := Lib.hid hp; clear hp
        go_wp2_with fail
        go_ret2
        exact retG_bad (HR.out (by unfold cornF; rw [HQ1.out, HQ.out]; rfl)) (by decide) HX0.out
      have HQ := Lib.hid hp; clear hp
      go_wp2_with fail
      go_round
      case rel => exact ⟨k + 1, by omega, by go_num, allB_succ HT.out (by unfold cornF; rw [HQ1.out, HQ.out]; rfl)⟩
      case measure => simp [intOf]; omega
    · obtain rfl : k = nC := by omega
      clear hlt hk
      go_wp2_with fail
      refine (rocheck_any AE k cE es _ (HE.out.ext HX0.out) HLE.out).mono ?_
      rintro e w1 ⟨rfl, he1⟩
      have HX1 := Lib.hid he1; clear he1
      by_cases hz : ocheck es = 0
      rotate_left
      · have hzb : (ocheck es != 0) = true := by simp [hz]
        have HZ := Lib.hid hz; clear hz
        have HR : Hid (gradedR es cs m = ocheck es) := by
          show gradedR es cs m = _
          unfold gradedR
          rw [if_neg (by rw [HM.out]; decide), if_neg (by rw [HLE.out, HLC.out]; simp), if_neg (by rw [HLC.out, HT.out]; decide), if_pos HZ.out]
        go_wp2_with fail
        go_ret2
        exact retG_bad HR.out HZ.out (HX0.out.trans HX1.out)
      have hzb : (ocheck es != 0) = false := by rw [hz]; rfl
      have HZ := Lib.hid hz; clear hz
      obtain ⟨ho1, ho2, ho3⟩ := ocheck_ok HZ.out
      rw [HLE.out] at ho1 ho2
      have HO3 := Lib.hid ho3; clear ho3
      have hmB : -100 ≤ m ∧ m ≤ 100 := of_decide_eq_true HM.out
      have HMB := Lib.hid hmB; clear hmB
      obtain ⟨e0, he0', hy0, hy1, hy2⟩ := info_parts edge_info
      go_wp2_with fail
      clear p1 p4
      go_loopw [9, 10] (fun v i wr => ∃ j : Nat, j ≤ k ∧ i = .int .i64 j ∧ OwnE wr W0.heap.size v ((gradedE es cs m).take j) ∧ Ext W0 wr) (fun _ i _ => k - (intOf i).toNat)
      case atStart => exact ⟨0, Nat.zero_le _, rfl, OwnE.nil _ _, HX1.out⟩
      case round =>
        obtain ⟨j, hj, rfl, ho, hx⟩ := hrel
        have HO := Lib.hid ho; have HX := Lib.hid hx; clear ho hx
        by_cases hlt : j < k
        · have hm1 : (j + 1) % k < k := Nat.mod_lt _ (by omega)
          obtain ⟨b, off, hA, c0, c1⟩ := (HC.out.ext (HX0.out.trans HX.out)).g (k := j) (by rw [HLC.out]; exact hlt)
          subst hA
          obtain ⟨d0, d1⟩ := (HC.out.ext (HX0.out.trans HX.out)).at1 (k := (j + 1) % k) (by rw [HLC.out]; exact hm1)
          obtain ⟨_, p1, _, _, p4, _, _⟩ := blk7 (HP.out.ext HX.out)
          obtain ⟨A0, hA0⟩ : ∃ A0, A0 = gS cs j := ⟨_, rfl⟩
          obtain ⟨B0, hB0⟩ : ∃ B0, B0 = gS cs ((j + 1) % k) := ⟨_, rfl⟩
          rw [← hA0] at c0 c1
          rw [← hB0] at d0 d1
          have HA0 := Lib.hid hA0; have HB0 := Lib.hid hB0; clear hA0 hB0
          have hw1 : IntKind.i64.wrap ((j : Int) + 1) = (j : Int) + 1 := IntWalk.i64_in _ (by omega)
          have hnN : ¬ k = 0 := by omega
          have hnp : 0 < k := by omega
          obtain ⟨hq0, hq1, hq2⟩ := mod_idx j k 1 1 rfl (by omega)
          have hj3 : ((j : Int) + 1).tmod k = (((j + 1) % k : Nat) : Int) := by rw [Int.tmod_eq_emod_of_nonneg (by omega)]; omega
          go_upto_region 18 with fail
          go_cut [11, 12] from 54 to 98 (fun pa pb wc => ∃ ab bb, pa = .pointer (some ⟨ab, 0, none⟩) ∧ pb = .pointer (some ⟨bb, 0, none⟩) ∧ Blk 62 wc ab [.int .i64 A0.1, .int .i64 A0.2] ∧ Blk 62 wc bb [.int .i64 B0.1, .int .i64 B0.2] ∧ Ext wr wc ∧ wr.heap.size ≤ ab ∧ wr.heap.size ≤ bb)
          case first =>
            have keep : ∀ W1 : World, Ext wr W1 → (Ext wr W1 ∧ W1.cell? ⟨w.heap.size, 4, none⟩ = some (.slice (some ⟨b, off, none⟩) k cC) ∧ W1.cell? ⟨b, off + j * 2, none⟩ = some (.int .i64 A0.1) ∧ W1.cell? ⟨b, off + j * 2 + 1, none⟩ = some (.int .i64 A0.2) ∧ W1.cell? ⟨b, off + (j + 1) % k * 2, none⟩ = some (.int .i64 B0.1) ∧ W1.cell? ⟨b, off + (j + 1) % k * 2 + 1, none⟩ = some (.int .i64 B0.2)) := fun W1 hx => ⟨hx, hx.cell p4, hx.cell c0, hx.cell c1, hx.cell d0, hx.cell d1⟩
            have KEEP := Lib.hid keep; clear keep c0 c1 d0 d1 p1 p4
            go_region_held3 (fun W => Ext wr W ∧ W.cell? ⟨w.heap.size, 4, none⟩ = some (.slice (some ⟨b, off, none⟩) k cC) ∧ W.cell? ⟨b, off + j * 2, none⟩ = some (.int .i64 A0.1) ∧ W.cell? ⟨b, off + j * 2 + 1, none⟩ = some (.int .i64 A0.2) ∧ W.cell? ⟨b, off + (j + 1) % k * 2, none⟩ = some (.int .i64 B0.1) ∧ W.cell? ⟨b, off + (j + 1) % k * 2 + 1, none⟩ = some (.int .i64 B0.2))
              (first | assumption | exact KEEP.out _ (by repeat (first | exact Ext.refl _ | apply Ext.alloc | apply Ext.drew)) | fail)
              (first | fail)
            all_goals
              go_wp2_with fail
              go_meet
            all_goals
              refine ⟨_, _, rfl, rfl, ?_, ?_, ?_, ?_, ?_⟩
              · first
                  | exact ((Blk.new' rfl).ext ((Ext.refl _).alloc _)).ext ((Ext.refl _).drew)
                  | exact (Blk.new' (by simp)).ext ((Ext.refl _).drew)
                  | fail
              · first
                  | exact ((Blk.new' rfl).ext ((Ext.refl _).alloc _)).ext ((Ext.refl _).drew)
                  | exact (Blk.new' (by simp)).ext ((Ext.refl _).drew)
                  | fail
              · exact (((Ext.refl _).alloc _).alloc _).drew
              · simp
              · simp
          case rest =>
            obtain ⟨ab, bb, hpa, hpb, hBa, hBb, hxc, hga, hgb⟩ := hcut
            subst hpa hpb
            clear c0 c1 d0 d1 p1 p4 hw1 hj3 hq0 hq1 hq2
            have HBA := Lib.hid hBa; have HBB := Lib.hid hBb; have HXC := Lib.hid hxc; clear hBa hBb hxc
            obtain ⟨wz, rfl⟩ : ∃ wz : World, wz = wc := ⟨_, rfl⟩
            have HXz := Lib.hid (HX.out.trans HXC.out)
            obtain ⟨b2, off2, L, cL, hA2, g0, g1, hS, _, _⟩ := (HE.out.ext (HX0.out.trans HXz.out)).g (k := j) (by rw [HLE.out]; exact hlt)
            subst hA2
            obtain ⟨hl2, hl40⟩ := lens_of HO3.out (k := j) (by rw [HLE.out]; exact hlt)
            obtain ⟨mm, hmm⟩ : ∃ mm, (gE es j).2.length = mm + 1 := ⟨(gE es j).2.length - 1, by omega⟩
            rw [hmm] at g1 hl2 hl40
            obtain ⟨ln, hln⟩ : ∃ ln, ln = (gE es j).2 := ⟨_, rfl⟩
            obtain ⟨NM, hNM⟩ : ∃ NM, NM = (gE es j).1 := ⟨_, rfl⟩
            rw [← hln] at hS hmm
            rw [← hNM] at g0
            have HLN := Lib.hid hln; have HNM := Lib.hid hNM; have HMM := Lib.hid hmm
            have hbe : b2 < w.heap.size := by
              obtain ⟨b3, off3, _, _, h3, g3, _⟩ := HE.out.g (k := j) (by rw [HLE.out]; exact hlt)
              injection h3 with h3; injection h3 with h3
              rw [h3]; exact cell_lt g3
            have hS' : SpotsAt w L ln := by
              obtain ⟨b3, off3, L3, c3, h3, _, g4, hs3, _⟩ := HE.out.g (k := j) (by rw [HLE.out]; exact hlt)
              injection h3 with h3; injection h3 with h3 h4
              subst h3; subst h4
              have := (HX0.out.trans HXz.out).cell g4
              rw [g1] at this
              injection this with this
              injection this with t1
              rw [t1, hln]; exact hs3
            have HS := Lib.hid hS'
            obtain ⟨_, p1, _, _, _, _, _⟩ := blk7 (HP.out.ext HXz.out)
            obtain ⟨a0, a1⟩ := blk2 HBA.out
            obtain ⟨b0, b1⟩ := blk2 HBB.out
            obtain ⟨M, hM⟩ : ∃ M, M = mulS m A0 := ⟨_, rfl⟩
            obtain ⟨N, hN⟩ : ∃ N, N = mulS m B0 := ⟨_, rfl⟩
            have f1 : IntKind.i64.wrap (m * A0.1) = M.1 := by rw [hM]; unfold mulS; rw [IntWalk.i64_left]
            have f2 : IntKind.i64.wrap (m * A0.2) = M.2 := by rw [hM]; unfold mulS; rw [IntWalk.i64_left]
            have f3 : IntKind.i64.wrap (m * B0.1) = N.1 := by rw [hN]; unfold mulS; rw [IntWalk.i64_left]
            have f4 : IntKind.i64.wrap (m * B0.2) = N.2 := by rw [hN]; unfold mulS; rw [IntWalk.i64_left]
            have HMb : Hid (-100000 ≤ M.1 ∧ M.1 ≤ 100000 ∧ -100000 ≤ M.2 ∧ M.2 ≤ 100000) := by
              have h := mulS_bd HMB.out HT.out hlt
              rw [← HA0.out, ← hM] at h
              exact ⟨h.1.1, h.1.2, h.2.1, h.2.2⟩
            have HNb : Hid (-100000 ≤ N.1 ∧ N.1 ≤ 100000 ∧ -100000 ≤ N.2 ∧ N.2 ≤ 100000) := by
              have h := mulS_bd HMB.out HT.out hm1
              rw [← HB0.out, ← hN] at h
              exact ⟨h.1.1, h.1.2, h.2.1, h.2.2⟩
            have HMe := Lib.hid hM; have HNe := Lib.hid hN
            have hwl : W0.heap.size ≤ wz.heap.size := HXz.out.size
            have hw0 : w.heap.size < W0.heap.size := HP.out.lt
            have hwr : W0.heap.size ≤ wr.heap.size := HX.out.size
            have HPS0 := HO.out
            obtain ⟨ps, hps, hor⟩ := HPS0
            obtain ⟨EL, hEL⟩ : ∃ EL, EL = (gradedE es cs m).take j := ⟨_, rfl⟩
            rw [← hEL] at hps hor
            have hELl : EL.length ≤ 1000 := by rw [hEL, List.length_take]; omega
            have HPS := Lib.hid (hps.ext HXC.out); have HOR := Lib.hid (own_ext hor HXC.out); have HEL := Lib.hid hEL
            have HLT : Hid (∀ g, u9.ownBlock = some g → W0.heap.size ≤ g ∧ g < wr.heap.size) := fun g hg => World.ownsRow.lt hor g hg
            clear hEL hps hor hM hN hS hS' hln hNM hmm
            have start : Ext W0 wz ∧ wz.cell? ⟨w.heap.size, 1, none⟩ = some (.slice (some ⟨b2, off2, none⟩) k cE) ∧ wz.cell? ⟨b2, off2 + j * 2, none⟩ = some (.string NM) ∧ wz.cell? ⟨b2, off2 + j * 2 + 1, none⟩ = some (.slice L (mm + 1) cL) ∧ wz.cell? ⟨ab, 0, none⟩ = some (.int .i64 A0.1) ∧ wz.cell? ⟨ab, 1, none⟩ = some (.int .i64 A0.2) ∧ wz.cell? ⟨bb, 0, none⟩ = some (.int .i64 B0.1) ∧ wz.cell? ⟨bb, 1, none⟩ = some (.int .i64 B0.2) := ⟨HXz.out, p1, g0, g1, a0, a1, b0, b1⟩
            have START := Lib.hid start
            have keep : ∀ W W1 : World, (Ext W0 W ∧ W.cell? ⟨w.heap.size, 1, none⟩ = some (.slice (some ⟨b2, off2, none⟩) k cE) ∧ W.cell? ⟨b2, off2 + j * 2, none⟩ = some (.string NM) ∧ W.cell? ⟨b2, off2 + j * 2 + 1, none⟩ = some (.slice L (mm + 1) cL) ∧ W.cell? ⟨ab, 0, none⟩ = some (.int .i64 A0.1) ∧ W.cell? ⟨ab, 1, none⟩ = some (.int .i64 A0.2) ∧ W.cell? ⟨bb, 0, none⟩ = some (.int .i64 B0.1) ∧ W.cell? ⟨bb, 1, none⟩ = some (.int .i64 B0.2)) → Ext W W1 → (Ext W0 W1 ∧ W1.cell? ⟨w.heap.size, 1, none⟩ = some (.slice (some ⟨b2, off2, none⟩) k cE) ∧ W1.cell? ⟨b2, off2 + j * 2, none⟩ = some (.string NM) ∧ W1.cell? ⟨b2, off2 + j * 2 + 1, none⟩ = some (.slice L (mm + 1) cL) ∧ W1.cell? ⟨ab, 0, none⟩ = some (.int .i64 A0.1) ∧ W1.cell? ⟨ab, 1, none⟩ = some (.int .i64 A0.2) ∧ W1.cell? ⟨bb, 0, none⟩ = some (.int .i64 B0.1) ∧ W1.cell? ⟨bb, 1, none⟩ = some (.int .i64 B0.2)) := fun W W1 ⟨h0, h1, h2, h3, h4, h5, h6, h7⟩ hy => ⟨h0.trans hy, hy.cell h1, hy.cell h2, hy.cell h3, hy.cell h4, hy.cell h5, hy.cell h6, hy.cell h7⟩
            have KEEP := Lib.hid keep
            have keepg : ∀ W W1 : World, (Ext W0 W ∧ W.cell? ⟨w.heap.size, 1, none⟩ = some (.slice (some ⟨b2, off2, none⟩) k cE) ∧ W.cell? ⟨b2, off2 + j * 2, none⟩ = some (.string NM) ∧ W.cell? ⟨b2, off2 + j * 2 + 1, none⟩ = some (.slice L (mm + 1) cL) ∧ W.cell? ⟨ab, 0, none⟩ = some (.int .i64 A0.1) ∧ W.cell? ⟨ab, 1, none⟩ = some (.int .i64 A0.2) ∧ W.cell? ⟨bb, 0, none⟩ = some (.int .i64 B0.1) ∧ W.cell? ⟨bb, 1, none⟩ = some (.int .i64 B0.2)) → W.grownBy W1 u9.ownBlock → (Ext W0 W1 ∧ W1.cell? ⟨w.heap.size, 1, none⟩ = some (.slice (some ⟨b2, off2, none⟩) k cE) ∧ W1.cell? ⟨b2, off2 + j * 2, none⟩ = some (.string NM) ∧ W1.cell? ⟨b2, off2 + j * 2 + 1, none⟩ = some (.slice L (mm + 1) cL) ∧ W1.cell? ⟨ab, 0, none⟩ = some (.int .i64 A0.1) ∧ W1.cell? ⟨ab, 1, none⟩ = some (.int .i64 A0.2) ∧ W1.cell? ⟨bb, 0, none⟩ = some (.int .i64 B0.1) ∧ W1.cell? ⟨bb, 1, none⟩ = some (.int .i64 B0.2)) := fun W W1 ⟨h0, h1, h2, h3, h4, h5, h6, h7⟩ hg => by
              have hne : ∀ x, (x < W0.heap.size ∨ wr.heap.size ≤ x) → some x ≠ u9.ownBlock := fun x hx' e => by have := HLT.out x e.symm; omega
              exact ⟨h0.grown hg (fun g hg' => (HLT.out g hg').1), (World.cell?_of_block (hg.block _ (cell_lt h1) (hne _ (.inl hw0)))).trans h1, (World.cell?_of_block (hg.block _ (cell_lt h2) (hne b2 (.inl (by omega))))).trans h2, (World.cell?_of_block (hg.block _ (cell_lt h3) (hne b2 (.inl (by omega))))).trans h3, (World.cell?_of_block (hg.block _ (cell_lt h4) (hne ab (.inr hga)))).trans h4, (World.cell?_of_block (hg.block _ (cell_lt h5) (hne ab (.inr hga)))).trans h5, (World.cell?_of_block (hg.block _ (cell_lt h6) (hne bb (.inr hgb)))).trans h6, (World.cell?_of_block (hg.block _ (cell_lt h7) (hne bb (.inr hgb)))).trans h7⟩
            have KEEPG := Lib.hid keepg
            have getw : ∀ W : World, (Ext W0 W ∧ W.cell? ⟨w.heap.size, 1, none⟩ = some (.slice (some ⟨b2, off2, none⟩) k cE) ∧ W.cell? ⟨b2, off2 + j * 2, none⟩ = some (.string NM) ∧ W.cell? ⟨b2, off2 + j * 2 + 1, none⟩ = some (.slice L (mm + 1) cL) ∧ W.cell? ⟨ab, 0, none⟩ = some (.int .i64 A0.1) ∧ W.cell? ⟨ab, 1, none⟩ = some (.int .i64 A0.2) ∧ W.cell? ⟨bb, 0, none⟩ = some (.int .i64 B0.1) ∧ W.cell? ⟨bb, 1, none⟩ = some (.int .i64 B0.2)) → Ext W0 W := fun W h => h.1
            have GETW := Lib.hid getw
            have H63 : Hid (EL.length + 1 ≤ maxLen) := by show _ ≤ _; unfold maxLen; omega
            have H64 : Hid ((EL.length + 1) * 40 ≤ 140737488355328) := by show _ ≤ _; omega
            clear start keep keepg getw p1 g0 g1 a0 a1 b0 b1
            go_wp2_with fail
            go_region_held3 (fun W => Ext W0 W ∧ W.cell? ⟨w.heap.size, 1, none⟩ = some (.slice (some ⟨b2, off2, none⟩) k cE) ∧ W.cell? ⟨b2, off2 + j * 2, none⟩ = some (.string NM) ∧ W.cell? ⟨b2, off2 + j * 2 + 1, none⟩ = some (.slice L (mm + 1) cL) ∧ W.cell? ⟨ab, 0, none⟩ = some (.int .i64 A0.1) ∧ W.cell? ⟨ab, 1, none⟩ = some (.int .i64 A0.2) ∧ W.cell? ⟨bb, 0, none⟩ = some (.int .i64 B0.1) ∧ W.cell? ⟨bb, 1, none⟩ = some (.int .i64 B0.2))
              (first | (with_reducible assumption) | (with_reducible exact KEEP.out wz _ START.out (Ext.drew (Ext.refl _))) | (with_reducible exact KEEP.out wz _ START.out CH.out) | (with_reducible exact KEEP.out wz _ START.out hxm') | (with_reducible exact KEEPG.out _ _ (KEEP.out wz _ START.out CH.out) hgrow) | fail)
              (first
                | (refine step_append_lies _ (by rfl) (.tmp 72) (.tmp 97) 48 (by rfl) W0.heap.size 57 e0 (.agg #[.string ⟨#[]⟩, .slice none 0 0]) 2 40 Tryz.underlying48 he0' hy0 hy1 hy2 rfl (by decide) u9 _ (ecells ps) (by rfl)
                     (own_ext HOR.out CH.out) ⟨wm.heap.size, 0, none⟩ 1 1 [.string NM, .slice Am (mm + 1) cm] (by rfl) (by rfl)
                     (World.news_of_block (cs := #[.string NM, .slice Am (mm + 1) cm]) (t := 57) (fr := (0, 0)) (heap_alloc_new wm _)) (by simp [Value.oneCell']) (by decide) H63.out H64.out
                     (Nat.le_trans hwl (Ext.size CH.out)) (wm.heap.size + 1) (by simp) ?_
                   intro gg cap wn hown1 hgrow hat hltn)
                | (go_at_call 82; refine (rgraded1_any NM L mm cL ln M N _ (HS.out.ext (HX0.out.trans (GETW.out _ ‹_›))) HMM.out (by omega) (by omega) HMb.out HNb.out).mono ?_; rintro e wm ⟨vm, rfl, hom, hxm⟩; obtain ⟨Am, cm, hvm, _⟩ := OwnT.slice' (n := mm + 1) hom (by rw [movedS_len]; exact HMM.out); subst hvm; have hxm' : Ext wz wm := Ext.trans (Ext.drew (Ext.refl _)) hxm; have CH : Hid (Ext wz (wm.alloc (.cells #[.string NM, .slice Am (mm + 1) cm] 57))) := Ext.alloc hxm' _)
                | fail)
            have hO' : OwnE wn W0.heap.size (.slice (some ⟨gg, 0, none⟩) (EL.length + 1) cap) ((gradedE es cs m).take (j + 1)) := by
              have hor1 := own_ext HOR.out CH.out
              have hp1 := (HPS.out.ext CH.out).grown hor1 (by decide) hgrow
              have hvm1 : OwnS wn W0.heap.size (.slice Am (mm + 1) cm) (movedS ln M N) := ((OwnS.ext hom ((Ext.refl _).alloc _)).grown hor1 (by decide) hgrow).base_le (by simpa using hwl)
              rw [gradedE_take (by rw [HLE.out]; exact hlt), ← HEL.out]
              have e : gradedAt es cs m j = (NM, movedS ln M N) := by
                unfold gradedAt
                rw [HLC.out, Nat.mod_eq_of_lt hlt, ← HLN.out, ← HNM.out, ← HA0.out, ← HB0.out, ← HMe.out, ← HNe.out]
              rw [e]
              refine ⟨ps ++ [(NM, .slice Am (mm + 1) cm)], hp1.snoc ⟨rfl, hvm1⟩, ?_⟩
              rw [ecells_append, List.length_append]; exact hown1
            have hxn : Ext W0 wn := And.left ‹Ext W0 wn ∧ _›
            have HO' := Lib.hid hO'; clear hO' hown1 hgrow hat hltn
            go_wp2_with fail
            exact ⟨⟨j + 1, by omega, by go_num, HO'.out, hxn⟩, by simp [intOf]; omega⟩
        · obtain rfl : j = k := by omega
          have hT : (gradedE es cs m).take j = gradedE es cs m := List.take_of_length_le (by rw [gradedE_len, HLE.out]; omega)
          have hO1 := HO.out
          rw [hT] at hO1
          obtain ⟨VA, vc, hvf, hEA, _, _⟩ := hO1.slice' (n := j) (by rw [gradedE_len, HLE.out])
          subst hvf
          have HO1 := Lib.hid hO1; have HEA := Lib.hid hEA; clear hO1 hEA hT HO
          have HR : Hid (gradedR es cs m = ocheck (gradedE es cs m)) := by
            show gradedR es cs m = _
            unfold gradedR
            rw [if_neg (by rw [HM.out]; decide), if_neg (by rw [HLE.out, HLC.out]; simp), if_neg (by rw [HLC.out, HT.out]; decide), if_neg (by rw [HZ.out]; simp)]
          go_wp2_with fail
          refine (rocheck_any VA j vc (gradedE es cs m) _ HEA.out (by rw [gradedE_len, HLE.out])).mono ?_
          rintro e w2 ⟨rfl, he2⟩
          have HXF := Lib.hid ((HX0.out.trans HX.out).trans he2)
          have HO2 := Lib.hid (HO1.out.ext he2); clear he2
          by_cases hz2 : ocheck (gradedE es cs m) = 0
          · have hzb2 : (ocheck (gradedE es cs m) != 0) = false := by rw [hz2]; rfl
            have HZ2 := Lib.hid hz2; clear hz2
            go_wp2_with fail
            go_ret2
            exact ⟨.slice VA j vc, by rw [HR.out, HZ2.out]; rfl, fun _ => HO2.out.base_le HX0.out.size, fun h => absurd (HR.out.trans HZ2.out) h, HXF.out⟩
          · have hzb2 : (ocheck (gradedE es cs m) != 0) = true := by simp [hz2]
            have HZ2 := Lib.hid hz2; clear hz2
            go_wp2_with fail
            go_ret2
            exact retG_bad HR.out HZ2.out HXF.out
end Go.Proofs.YtkigmpholnfkbaaGreat
/- the reference: garmentref10.Root -/
namespace Go.Proofs.YtkigmpholnfkbaaGreat
open Go.RowKit
set_option maxRecDepth 100000 in
set_option maxHeartbeats 1600000 in
theorem rroot_any (n : Nat) (w : World) (hn : n < 9223372036854775808) :
    Calls Tryz.prog 116 #[.int .i64 n] w fun e w' => e = .returned (.int .i64 (rootN n)) ∧ w = w' := by
  have hr := rootN_is n (by omega)
  have HRR := Lib.hid hr; clear hr
  go_enter Tryz.func116, Tryz.ntmps116
  go_wp2_with fail
  go_loop [3, 4] (fun o k => ∃ o' j : Nat, o = .int .i64 o' ∧ k = .int .i64 ((j : Int) - 1) ∧ j ≤ 32 ∧ o' * o' ≤ n ∧ n < (o' + 2 ^ j) * (o' + 2 ^ j) ∧ o' + 2 ^ j ≤ 4294967296) (fun _ k => (intOf k + 1).toNat)
  case atStart => exact ⟨0, 32, rfl, rfl, by omega, by omega, by simp; omega, by simp⟩
  case round =>
    obtain ⟨o, j, rfl, rfl, hj, h0, h1, h2⟩ := hrel
    have H0 := Lib.hid h0; have H1 := Lib.hid h1
    clear h0 h1
    cases j with
    | zero =>
      go_wp2_with fail
      go_ret
      exact ⟨ret_int (by rw [root_one HRR.out.1 HRR.out.2 H0.out (by simpa using H1.out)]), rfl⟩
    | succ i =>
      obtain ⟨p, hp⟩ : ∃ p : Nat, p = 2 ^ i := ⟨_, rfl⟩
      have hp2 : 2 ^ (i + 1) = 2 * p := by rw [hp, Nat.pow_succ]; omega
      rw [hp2] at h2 H1
      have hpi : (2 : Int) ^ i = (p : Int) := by rw [hp]; simp
      have hp0 : 0 < p := by rw [hp]; exact Nat.pow_pos (by omega)
      have HPP := Lib.hid hp
      clear hp hp2
      have hki : (((i + 1 : Nat) : Int) - 1) = i := by omega
      rw [hki]
      clear hki
      have hi31 : i ≤ 31 := by omega
      have hm0 : ((i : Int) % 18446744073709551616) = i := by omega
      have hm1 : (((o : Int) + p) % 18446744073709551616) = (o : Int) + p := by omega
      have hm2 : ((n : Int) % 18446744073709551616) = n := by omega
      have hsq : (o + p) * (o + p) < 18446744073709551616 := by
        have := Nat.mul_le_mul (show o + p ≤ 4294967295 by omega) (show o + p ≤ 4294967295 by omega)
        omega
      have hsqi : ((((o : Int) + p) * ((o : Int) + p)) % 18446744073709551616) = ((o : Int) + p) * ((o : Int) + p) := by
        have e : (((o : Int) + p) * ((o : Int) + p)) = (((o + p) * (o + p) : Nat) : Int) := by simp
        rw [e]; omega
      have HSQ := Lib.hid hsq; clear hsq
      by_cases hc : (o + p) * (o + p) ≤ n
      · have hci : ((o : Int) + p) * ((o : Int) + p) ≤ n := by
          have e : (((o : Int) + p) * ((o : Int) + p)) = (((o + p) * (o + p) : Nat) : Int) := by simp
          rw [e]; omega
        have HC := Lib.hid hc; clear hc
        go_wp2_with fail
        refine ⟨⟨o + p, i, by simp, rfl, by omega, HC.out, ?_, ?_⟩, by simp [intOf]⟩
        · have h := H1.out
          rw [show o + 2 * p = o + p + p from by omega] at h
          rw [← HPP.out]; exact h
        · rw [← HPP.out]; omega
      · have hci : ¬ ((o : Int) + p) * ((o : Int) + p) ≤ n := by
          have e : (((o : Int) + p) * ((o : Int) + p)) = (((o + p) * (o + p) : Nat) : Int) := by simp
          rw [e]; omega
        have HC := Lib.hid hc; clear hc
        go_wp2_with fail
        refine ⟨⟨o, i, rfl, rfl, by omega, H0.out, ?_, ?_⟩, by simp [intOf]⟩
        · rw [← HPP.out]; have := HC.out; omega
        · rw [← HPP.out]; omega
theorem rroot_int (n : Int) (w : World) (h0 : 0 ≤ n) (h1 : n < 9223372036854775808) :
    Calls Tryz.prog 116 #[.int .i64 n] w fun e w' => e = .returned (.int .i64 (rootN n.toNat)) ∧ w = w' := by
  have h := rroot_any n.toNat w (by omega)
  rwa [Int.toNat_of_nonneg h0] at h
set_option maxHeartbeats 800000 in
theorem rsegment_any (p q : Spot) (w : World) (hp : inB p) (hq : inB q) :
    Calls Tryz.prog 99 #[SV p, SV q] w fun e w' => e = .returned (.int .i64 (seg p q)) ∧ Ext w w' := by
  obtain ⟨px, py⟩ := p; obtain ⟨qx, qy⟩ := q
  obtain ⟨p1, p2, p3, p4⟩ := hp; obtain ⟨q1, q2, q3, q4⟩ := hq
  have hs : ((sqN (px, py) (qx, qy) : Nat) : Int) = (qx - px) * (qx - px) + (qy - py) * (qy - py) := by
    have h1 := (sq_bound (d := qx - px) (by omega) (by omega)).1
    have h2 := (sq_bound (d := qy - py) (by omega) (by omega)).1
    unfold sqN; exact Int.toNat_of_nonneg (by simp only; omega)
  have h1 := sq_bound (d := qx - px) (by omega) (by omega)
  have h2 := sq_bound (d := qy - py) (by omega) (by omega)
  simp only at p1 p2 p3 p4 q1 q2 q3 q4
  go_enter Tryz.func99, Tryz.ntmps99
  go_wp2_with fail
  go_quiet (fail)
  go_wp2_with fail
  refine (rroot_int _ _ (by omega) (by omega)).mono ?_
  rintro e w1 ⟨rfl, rfl⟩
  go_wp2_with fail
  go_ret
  refine ⟨ret_int ?_, (((Ext.refl _).alloc _).alloc _).drewN _⟩
  unfold seg
  congr 2
  omega
set_option maxHeartbeats 1600000 in
theorem rtotal_any (A : Option Addr) (n c : Nat) (l : List Spot) (w : World) (ha : SpotsAt w A l) (hl : l.length = n) (h1n : 1 ≤ n) (h40 : n ≤ 40) (hin : ∀ k, k < l.length → inB (gS l k)) :
    Calls Tryz.prog 84 #[.slice A n c] w fun e w' => e = .returned (.int .i64 (lenTo l (n - 1))) ∧ Ext w w' := by
  have HL := Lib.hid hl; clear hl
  have HA := Lib.hid ha; clear ha
  have HIN := Lib.hid hin; clear hin
  go_enter Tryz.func84, Tryz.ntmps84
  go_wp2_with fail
  go_loopw [3, 4] (fun s i wr => ∃ k : Nat, k + 1 ≤ n ∧ i = .int .i64 ((k : Int) + 1) ∧ s = .int .i64 (lenTo l k) ∧ Ext w wr) (fun _ i _ => n - (intOf i).toNat)
  case atStart => exact ⟨0, h1n, rfl, rfl, Ext.refl _⟩
  case round =>
    obtain ⟨k, hk, rfl, rfl, hx⟩ := hrel
    by_cases hlt : k + 1 < n
    · have hb := lenTo_le HIN.out k (by rw [HL.out]; omega)
      have hg := seg_le (HIN.out k (by rw [HL.out]; omega)) (HIN.out (k + 1) (by rw [HL.out]; omega))
      have hgh := Lib.hid (HIN.out k (by rw [HL.out]; omega)); have hgi := Lib.hid (HIN.out (k + 1) (by rw [HL.out]; omega))
      obtain ⟨b, off, rfl, hc0, hc1⟩ := (HA.out.ext hx).g (k := k) (by rw [HL.out]; omega)
      obtain ⟨hd0, hd1⟩ := (HA.out.ext hx).at1 (k := k + 1) (by rw [HL.out]; omega)
      have hs1 : IntKind.i64.wrap ((k : Int) + 1 - 1) = k := (IntWalk.i64_in _ (by omega)).trans (by omega)
      have hs1' : IntKind.i64.wrap (k : Int) = k := IntWalk.i64_in _ (by omega)
      have hs2 : ((k : Int) + 1).toNat = k + 1 := by omega
      have hs3 : (k : Int) + 1 < n := by omega
      have hs3' : (k : Int) < n := by omega
      have hs4 : 0 ≤ (k : Int) + 1 := by omega
      have hs5 : IntKind.i64.wrap ((lenTo l k : Int) + seg (gS l k) (gS l (k + 1))) = (lenTo l k : Int) + seg (gS l k) (gS l (k + 1)) := IntWalk.i64_in _ (by omega)
      go_wp2_with fail
      have d0 := fun z : After wr => After.cell hc0 z
      have d1 := fun z : After wr => After.cell hc1 z
      have d2 := fun z : After wr => After.cell hd0 z
      have d3 := fun z : After wr => After.cell hd1 z
      refine region_ext (by kernel_rfl) (by kernel_rfl) ?_
      repeat (go_big_quiet_step (
        (go_at_call 99; exact after_call (rsegment_any (gS l k) (gS l (k + 1)) _ hgh.out hgi.out))))
      refine wpQuiet_nil ?_
      rintro w1 ⟨⟨_, he⟩, rfl⟩
      clear hs1 hs2 hs4
      go_wp2_with fail
      go_roundw
      case rel => exact ⟨k + 1, by omega, by go_num, by simp [lenTo], hx.trans he⟩
      case measure => simp [intOf]; omega
    · have hlt' : ¬ (k : Int) + 1 < n := by omega
      have hkn : k = n - 1 := by omega
      go_wp2_with fail
      go_ret
      exact ⟨rfl, hx⟩
set_option maxHeartbeats 800000 in
theorem rlength_any (A : Option Addr) (n c : Nat) (l : List Spot) (w : World) (ha : SpotsAt w A l) (hl : l.length = n) :
    Calls Tryz.prog 61 #[.slice A n c] w fun e w' => e = .returned (.tuple #[.int .i64 (lengthN l), .int .i64 (lcheck l)]) ∧ Ext w w' := by
  have HL := Lib.hid hl; clear hl
  have HA := Lib.hid ha; clear ha
  go_enter Tryz.func61, Tryz.ntmps61
  go_wp2_with fail
  refine (rcheck_any A n c l w HA.out HL.out).mono ?_
  rintro e w1 ⟨rfl, hx⟩
  by_cases hz : lcheck l = 0
  · obtain ⟨h2, h40, hin⟩ := lcheck_zero hz
    rw [HL.out] at h2 h40
    have HIN := Lib.hid hin; clear hin
    have HZ := Lib.hid hz
    rw [hz]
    clear hz
    go_wp2_with fail
    refine (rtotal_any A n c l _ (HA.out.ext hx) HL.out (by omega) h40 HIN.out).mono ?_
    rintro e w2 ⟨rfl, he2⟩
    go_wp2_with fail
    go_ret2
    exact ⟨by unfold lengthN; rw [HZ.out, if_neg (by simp), HL.out]; rfl, hx.trans he2⟩
  · have hd : (lcheck l != 0) = true := by simp [hz]
    have HZ := Lib.hid hz; clear hz
    go_wp2_with fail
    go_ret2
    exact ⟨by unfold lengthN; rw [if_pos HZ.out]; rfl, hx⟩
end Go.Proofs.YtkigmpholnfkbaaGreat
/- the reference: garmentref22.share, Partner -/
namespace Go.Proofs.YtkigmpholnfkbaaGreat
open Go.RowKit
theorem digs_q {a R c k q l : Nat} (h : Digs a R c k q l) (hR : R < c) : q ≤ a := by
  have hs := h.sum
  have h1 : a / 2 ^ k * R ≤ a * c := Nat.mul_le_mul (Nat.div_le_self _ _) (Nat.le_of_lt hR)
  exact Nat.le_of_mul_le_mul_right (show q * c ≤ a * c by omega) (by omega)
theorem part_le_b {a b c : Nat} (hc : 1 ≤ c) (ha : a ≤ c) : partQ a b c ≤ b := part_le hc ha
set_option maxRecDepth 100000 in
set_option maxHeartbeats 1600000 in
theorem share_any (a b c : Nat) (w : World) (hc : 1 ≤ c) (hc2 : c ≤ 1099511627776) (hb : b ≤ 1099511627776) (ha : a ≤ c) :
    Calls Tryz.prog 100 #[.int .i64 (a : Int), .int .i64 (b : Int), .int .i64 (c : Int)] w fun e w' => e = .returned (.int .i64 (partQ a b c : Int)) ∧ Ext w w' := by
  have hc0 : ((c : Int) == 0) = false := by simp; omega
  have hc1 : ¬ (c : Int) = 0 := by omega
  have hcn : ¬ c = 0 := by omega
  go_enter Tryz.func100, Tryz.ntmps100
  go_wp2_with fail
  go_quiet (fail)
  go_wp2_with fail
  obtain ⟨D, hD⟩ : ∃ D, D = b / c := ⟨_, rfl⟩
  obtain ⟨R, hR⟩ : ∃ R, R = b % c := ⟨_, rfl⟩
  obtain ⟨O, hO⟩ : ∃ O, O = a * D := ⟨_, rfl⟩
  have hRl : R < c := by rw [hR]; exact Nat.mod_lt _ (by omega)
  have hOb : O ≤ b := by
    rw [hO, hD]
    exact Nat.le_trans (Nat.mul_le_mul_right _ ha) (Nat.mul_div_le _ _)
  have hDb : D ≤ b := by rw [hD]; exact Nat.div_le_self _ _
  have g1 : wrap64 ((b : Int) / (c : Int)) = (D : Int) := by rw [← Int.natCast_ediv, ← hD]; exact IntWalk.wrap64_in _ ⟨by omega, by omega⟩
  have g2 : (b : Int) % (c : Int) = (R : Int) := by rw [← Int.natCast_emod, ← hR]
  have g3 : wrap64 ((a : Int) * (D : Int)) = (O : Int) := by rw [← Int.natCast_mul, ← hO]; exact IntWalk.wrap64_in _ ⟨by omega, by omega⟩
  simp only [g1, g2, g3]
  clear g1 g2 g3 hc0 hDb
  have HFIN : Hid (∀ q l : Nat, Digs a R c 0 q l → O + (q + if c ≤ 2 * l then 1 else 0) = partQ a b c) := fun q l h => by rw [hO, hD]; rw [hR] at h; exact digs_end h hc
  clear hD hR hO
  have hPb := part_le (t := b) hc ha
  refine wp_at fun W0 hW0 => ?_
  have hx0 : Ext w W0 := by rw [hW0]; exact Ext.drewN (Ext.refl _) _
  have HX0 := Lib.hid hx0; clear hW0 hx0
  go_loopw [10, 11, 12] (fun x y i wr => ∃ k q l : Nat, k ≤ 41 ∧ i = .int .i64 ((k : Int) - 1) ∧ x = .int .i64 (q : Int) ∧ y = .int .i64 (l : Int) ∧ Digs a R c k q l ∧ wr = W0) (fun _ _ i _ => ((intOf i) + 1).toNat)
  case atStart => exact ⟨41, 0, 0, Nat.le_refl _, rfl, rfl, rfl, digs_start (by omega) hc, rfl⟩
  case round =>
    obtain ⟨k, q, l, hk, rfl, rfl, rfl, hd, rfl⟩ := hrel
    have hll := hd.lt
    have HD := Lib.hid hd; clear hd
    match k, hk, HD with
    | 0, hk, HD =>
      have hfin := HFIN.out q l HD.out
      by_cases hcl : c ≤ 2 * l
      · rw [if_pos hcl] at hfin
        have hci : (c : Int) ≤ 2 * (l : Int) := by omega
        go_wp2_with fail
        go_ret
        exact ⟨ret_int (by omega), HX0.out⟩
      · rw [if_neg hcl] at hfin
        have hci : ¬ (c : Int) ≤ 2 * (l : Int) := by omega
        go_wp2_with fail
        go_ret
        exact ⟨ret_int (by omega), HX0.out⟩
    | j + 1, hk, HD =>
      obtain ⟨B, hB⟩ : ∃ B, B = a / 2 ^ j % 2 := ⟨_, rfl⟩
      have hon := digs_on HD.out hc hB
      have hq := digs_q HD.out hRl
      rw [show ((j + 1 : Nat) : Int) - 1 = (j : Int) from by omega]
      have hq' := digs_q hon hRl
      have ebit : ((a : Int) / 2 ^ j).tmod 2 = (B : Int) := by
        have e1 : (a : Int) / 2 ^ j = ((a / 2 ^ j : Nat) : Int) := by simp
        rw [e1, Int.tmod_eq_emod_of_nonneg (Int.natCast_nonneg _), hB]; exact (Int.natCast_emod _ _).symm
      have hB2 : B < 2 := by rw [hB]; exact Nat.mod_lt _ (by omega)
      clear hB
      by_cases hB1 : B = 1
      · subst hB1
        rw [Nat.one_mul] at hon hq'
        have hbit : (((a : Int) / 2 ^ j).tmod 2 == 1) = true := by rw [ebit]; rfl
        have HON := Lib.hid hon
        have HQ' := Lib.hid hq'
        clear ebit hon hq' hB2
        go_wp2_with fail
        refine ⟨⟨j, 2 * q + (2 * l + R) / c, (2 * l + R) % c, by omega, rfl, ?_, ?_, HON.out, trivial⟩, by simp [intOf]⟩
        · have h := HQ'.out
          have e : (2 * (q : Int) + (2 * (l : Int) + (R : Int)) / (c : Int)) = ((2 * q + (2 * l + R) / c : Nat) : Int) := by simp
          rw [e]
          generalize 2 * q + (2 * l + R) / c = q2 at *
          rw [IntWalk.wrap64_in _ ⟨by omega, by omega⟩]
        · simp
      · obtain rfl : B = 0 := by omega
        rw [Nat.zero_mul, Nat.add_zero] at hon hq'
        have hbit : (((a : Int) / 2 ^ j).tmod 2 == 1) = false := by rw [ebit]; rfl
        have HON := Lib.hid hon
        have HQ' := Lib.hid hq'
        clear ebit hon hq' hB2
        go_wp2_with fail
        refine ⟨⟨j, 2 * q + (2 * l) / c, (2 * l) % c, by omega, rfl, ?_, ?_, HON.out, trivial⟩, by simp [intOf]⟩
        · have h := HQ'.out
          have e : (2 * (q : Int) + (2 * (l : Int)) / (c : Int)) = ((2 * q + (2 * l) / c : Nat) : Int) := by simp
          rw [e]
          generalize 2 * q + (2 * l) / c = q2 at *
          rw [IntWalk.wrap64_in _ ⟨by omega, by omega⟩]
        · simp
set_option maxRecDepth 100000 in
set_option maxHeartbeats 1600000 in
theorem rpartner_any (f t a : Int) (r : Bool) (w : World) :
    Calls Tryz.prog 85 #[.int .i64 f, .int .i64 t, .bool r, .int .i64 a] w (RetPt w f t r a) := by
  by_cases h1 : f < 1
  · go_enter Tryz.func85, Tryz.ntmps85
    go_wp2_with fail
    go_ret2
    exact retPt_bad (by omega)
  by_cases h2 : 1099511627776 < f
  · go_enter Tryz.func85, Tryz.ntmps85
    go_wp2_with fail
    go_ret2
    exact retPt_bad (by omega)
  by_cases h3 : t < 0
  · go_enter Tryz.func85, Tryz.ntmps85
    go_wp2_with fail
    go_ret2
    exact retPt_bad (by omega)
  by_cases h4 : 1099511627776 < t
  · go_enter Tryz.func85, Tryz.ntmps85
    go_wp2_with fail
    go_ret2
    exact retPt_bad (by omega)
  by_cases h5 : a < 0
  · go_enter Tryz.func85, Tryz.ntmps85
    go_wp2_with fail
    go_ret2
    exact retPt_bad (by omega)
  by_cases h6 : f < a
  · go_enter Tryz.func85, Tryz.ntmps85
    go_wp2_with fail
    go_ret2
    exact retPt_bad (by omega)
  obtain ⟨F, rfl⟩ := Int.eq_ofNat_of_zero_le (show 0 ≤ f by omega)
  obtain ⟨T, rfl⟩ := Int.eq_ofNat_of_zero_le (show 0 ≤ t by omega)
  obtain ⟨X, rfl⟩ := Int.eq_ofNat_of_zero_le (show 0 ≤ a by omega)
  have HOK : Hid (1 ≤ (F : Int) ∧ (F : Int) ≤ 1099511627776 ∧ 0 ≤ (T : Int) ∧ (T : Int) ≤ 1099511627776 ∧ 0 ≤ (X : Int) ∧ (X : Int) ≤ (F : Int)) := ⟨by omega, by omega, by omega, by omega, by omega, by omega⟩
  have hF1 : 1 ≤ F := by omega
  have hX2 : X ≤ F := by omega
  have hle2 : partQ X T F ≤ T := part_le hF1 hX2
  have HN : Hid (∀ r, partN (F : Int) (T : Int) r (X : Int) = if r = true then (T : Int) - (partQ X T F : Int) else (partQ X T F : Int)) := fun r => by unfold partN; simp
  go_enter Tryz.func85, Tryz.ntmps85
  go_wp2_with fail
  refine (share_any X T F _ hF1 (by omega) (by omega) hX2).mono ?_
  rintro e w1 ⟨rfl, he1⟩
  obtain ⟨N, hN⟩ : ∃ N, N = partQ X T F := ⟨_, rfl⟩
  rw [← hN] at hle2 HN ⊢
  have HX := Lib.hid he1; clear he1 hN
  cases r
  · go_wp2_with fail
    go_ret2
    exact retPt_ok HOK.out (by rw [HN.out]; simp) HX.out
  · go_wp2_with fail
    go_ret2
    exact retPt_ok HOK.out (by rw [HN.out]; simp) HX.out
end Go.Proofs.YtkigmpholnfkbaaGreat
namespace Go.Proofs.YtkigmpholnfkbaaGreat
open Go.RowKit
theorem retPd_bad {w w' : World} {p : Pc} {m x : Int} (h : plE p m = x) (hx : x ≠ 0) (he : Ext w w') : RetPd w p m (.returned (.tuple #[.slice none 0 0, .int .i64 x])) w' :=
  ⟨_, by rw [h], fun h0 => absurd (h.symm.trans h0) hx, fun _ => rfl, he⟩
set_option maxRecDepth 100000 in
set_option maxHeartbeats 3200000 in
theorem rplaced_any (a : PcA) (p : Pc) (m : Int) (w : World) (hp : PcAt w a p) (hb1 : p.es.length ≤ 1000) (hb2 : p.cs.length ≤ 1000) :
    Calls Tryz.prog 63 #[a.val, .int .i64 m] w (RetPd w p m) := by
  have HP := Lib.hid hp; clear hp
  have HG := Lib.hid (fun W (h : Ext w W) => rgraded_any a.nm a.AE a.AN a.AC a.AW a.nE a.cE a.nN a.cN a.nC a.cC a.nW a.cW a.gr m a.mt p.es p.cs W (HP.out.e.ext h) HP.out.le (HP.out.c.ext h) HP.out.lc (by rw [← HP.out.le]; exact hb1) (by rw [← HP.out.lc]; exact hb2))
  clear hb1 hb2
  obtain ⟨nm, AE, nE, cE, gr, AN, nN, cN, AC, nC, cC, AW, nW, cW, mt⟩ := a
  obtain ⟨es, cs, ws, ns⟩ := p
  simp only at HG
  have HLE : Hid (es.length = nE) := HP.out.le
  have HLN : Hid (ns.length = nN) := HP.out.ln
  have HE : Hid (EdgesAt w AE es) := HP.out.e
  have HN : Hid (SpotsAt w AN ns) := HP.out.n
  have HPE : Hid (plE ⟨es, cs, ws, ns⟩ m = if gradedR es cs m ≠ 0 then gradedR es cs m else if 16 < nN then 5 else firstE (ntE ⟨es, cs, ws, ns⟩ m) nN) := by show _ = _; rw [← HLN.out]; rfl
  have HNT : Hid (∀ i, ntE ⟨es, cs, ws, ns⟩ m i = if (gS ns i).1 < 0 ∨ (es.length : Int) ≤ (gS ns i).1 then 3 else partE (lengthN (gE es (gS ns i).1.toNat).2) (lengthN (gE (gradedE es cs m) (gS ns i).1.toNat).2) (gS ns i).2) := fun i => rfl
  have HPV : Hid (∀ i, plV ⟨es, cs, ws, ns⟩ m i = partV (lengthN (gE es (gS ns i).1.toNat).2) (lengthN (gE (gradedE es cs m) (gS ns i).1.toNat).2) false (gS ns i).2) := fun i => rfl
  have HPL : Hid (plL ⟨es, cs, ws, ns⟩ m = plTo ⟨es, cs, ws, ns⟩ m nN) := by show _ = _; rw [← HLN.out]; rfl
  obtain ⟨pc, hpc⟩ : ∃ pc, pc = (⟨es, cs, ws, ns⟩ : Pc) := ⟨_, rfl⟩
  rw [← hpc] at HPE HNT HPV HPL ⊢
  have HPG : Hid (gradedE pc.es pc.cs m = gradedE es cs m) := by show _ = _; rw [hpc]
  clear hpc
  simp only [PcA.val]
  obtain ⟨i0, hi0, hz0, hz1, hz2⟩ := info_parts int_info
  go_enter Tryz.func63, Tryz.ntmps63
  go_wp2_with fail
  refine (HG.out _ ((Ext.refl _).alloc _)).mono ?_
  rintro e w1 ⟨v1, rfl, hv, hv', he1⟩
  have HB1 : Hid (Blk 52 w1 w.heap.size [.string nm, .slice AE nE cE, .int .i64 gr, .slice AN nN cN, .slice AC nC cC, .slice AW nW cW, .bool mt]) := (Blk.new' rfl).ext he1
  have HX1 := Lib.hid (((Ext.refl w).alloc _).trans he1)
  by_cases hz : gradedR es cs m = 0
  rotate_left
  · have hvf := hv' hz
    subst hvf
    have HR : Hid (plE pc m = gradedR es cs m) := by show _ = _; rw [HPE.out, if_pos hz]
    have hzb : (gradedR es cs m != 0) = true := by simp [hz]
    obtain ⟨x, hx⟩ : ∃ x, x = gradedR es cs m := ⟨_, rfl⟩
    rw [← hx] at hz hzb HR ⊢
    have HZ := Lib.hid hz; clear hv hv' hz hx he1
    go_wp2_with fail
    go_ret2
    exact retPd_bad HR.out HZ.out HX1.out
  have hO := hv hz
  have HOE := Lib.hid (show OwnE w1 w.heap.size v1 (gradedE es cs m) from by
    obtain ⟨ps, h1, h2⟩ := hO
    refine ⟨ps, ⟨h1.1, fun k hk => ⟨(h1.2 k hk).1, own_base_le (h1.2 k hk).2 ?_⟩⟩, own_base_le h2 ?_⟩ <;> simp)
  have hGOK := (gradedR_iff es cs m).1 hz
  have HLB := Lib.hid (fun k (h : k < es.length) => ocheck_line hGOK.ok h)
  have HLG := Lib.hid (fun k (h : k < es.length) => graded_lines (cs := cs) (m := m) hz h)
  obtain ⟨A1, c1', hvf, hE1, _, _⟩ := OwnE.slice' (n := nE) hO (by rw [gradedE_len]; exact HLE.out)
  subst hvf
  have HGE := Lib.hid hE1
  rw [hz] at HPE ⊢
  clear hv hv' hz hO hE1 he1 hGOK HG
  simp only [ne_eq, not_true_eq_false, if_false] at HPE
  obtain ⟨c0, c1, c2, c3, c4, c5, c6⟩ := blk7 HB1.out
  by_cases h16 : 16 < nN
  · have HR : Hid (plE pc m = 5) := by show _ = _; rw [HPE.out, if_pos h16]
    go_wp2_with fail
    go_ret2
    exact retPd_bad HR.out (by decide) HX1.out
  rw [if_neg h16] at HPE
  go_wp2_with fail
  clear c0 c1 c2 c3 c4 c5 c6
  go_loopw [8, 9] (fun v i wr => ∃ k : Nat, k ≤ nN ∧ i = .int .i64 k ∧ firstE (ntE pc m) k = 0 ∧ OwnI wr w1.heap.size v (plTo pc m k) ∧ Ext w1 wr) (fun _ i _ => nN - (intOf i).toNat)
  case atStart => exact ⟨0, Nat.zero_le _, rfl, rfl, OwnI.nil _ _, Ext.refl _⟩
  case round =>
    obtain ⟨k, hk, rfl, ht, ho, hx⟩ := hrel
    have HT := Lib.hid ht; clear ht
    have hlk := plTo_len pc m k
    obtain ⟨LK, hLK⟩ : ∃ LK, LK = plTo pc m k := ⟨_, rfl⟩
    rw [← hLK] at ho hlk
    have HLKE := Lib.hid hLK; have HO := Lib.hid ho; have HX := Lib.hid hx; clear hLK ho hx
    have HXw := Lib.hid (HX1.out.trans HX.out)
    by_cases hlt : k < nN
    · obtain ⟨bn, on, hAN, n0, n1⟩ := (HN.out.ext HXw.out).g (k := k) (by rw [HLN.out]; exact hlt)
      subst hAN
      obtain ⟨nt, hnt⟩ : ∃ nt, nt = gS ns k := ⟨_, rfl⟩
      rw [← hnt] at n0 n1
      have hNTk := HNT.out k
      have hPVk := HPV.out k
      rw [← hnt] at hNTk hPVk
      have HNTk := Lib.hid hNTk; have HPVk := Lib.hid hPVk
      clear hnt hNTk hPVk
      obtain ⟨ed, at'⟩ := nt
      simp only at n0 n1 HNTk HPVk
      obtain ⟨c0, c1, c2, c3, c4, c5, c6⟩ := blk7 (HB1.out.ext HX.out)
      have hpl : w.heap.size < wr.heap.size := (HB1.out.ext HX.out).lt
      by_cases e0 : ed < 0
      · have HNE : Hid (ntE pc m k = 3) := by show _ = _; rw [HNTk.out, if_pos (Or.inl e0)]
        have HR : Hid (plE pc m = 3) := by show _ = _; rw [HPE.out, firstE_at hlt HT.out (by rw [HNE.out]; decide), HNE.out]
        go_wp2_with fail
        go_ret2
        exact retPd_bad HR.out (by decide) (HXw.out.alloc _)
      by_cases e1 : (nE : Int) ≤ ed
      · have HNE : Hid (ntE pc m k = 3) := by show _ = _; rw [HNTk.out, if_pos (Or.inr (by rw [HLE.out]; exact e1))]
        have HR : Hid (plE pc m = 3) := by show _ = _; rw [HPE.out, firstE_at hlt HT.out (by rw [HNE.out]; decide), HNE.out]
        go_wp2_with fail
        go_ret2
        exact retPd_bad HR.out (by decide) (HXw.out.alloc _)
      obtain ⟨D, rfl⟩ := Int.eq_ofNat_of_zero_le (show 0 ≤ ed by omega)
      have hD : D < nE := by omega
      have hDl : D < es.length := by rw [HLE.out]; exact hD
      have HNE := HNTk.out
      rw [if_neg (by rw [HLE.out]; omega), Int.toNat_natCast] at HNE
      have HPVd := HPVk.out
      rw [Int.toNat_natCast] at HPVd
      have HNEh := Lib.hid HNE; have HPVh := Lib.hid HPVd
      clear HNE HPVd HNTk HPVk
      have HXL : Hid (Ext wr (wr.alloc (.cells #[.int .i64 (D : Int), .int .i64 at'] 95))) := (Ext.refl _).alloc _
      have HZB := Lib.hid (HLB.out D hDl); have HZG := Lib.hid (HLG.out D hDl)
      obtain ⟨be, oe, L, cL, hAE, l0, l1, hSL, _, _⟩ := (HE.out.ext HXw.out).g (k := D) hDl
      subst hAE
      obtain ⟨lb, hlb⟩ : ∃ lb, lb = (gE es D).2 := ⟨_, rfl⟩
      rw [← hlb] at l1 hSL HZB HNEh HPVh
      clear hlb l0
      have hbe : be < wr.heap.size := cell_lt l1
      obtain ⟨nl, hnl⟩ : ∃ nl, nl = lb.length := ⟨_, rfl⟩
      rw [← hnl] at l1
      have HNL := Lib.hid hnl; have HSL := Lib.hid hSL; clear hnl hSL
      go_wp2_with fail
      refine (rlength_any L nl cL lb _ (HSL.out.ext HXL.out) HNL.out.symm).mono ?_
      rintro e w2 ⟨rfl, he2⟩
      rw [HZB.out]
      have HNB : Hid (Blk 95 w2 wr.heap.size [.int .i64 (D : Int), .int .i64 at']) := (Blk.new' rfl).ext he2
      have HX2 := Lib.hid ((HX.out.trans HXL.out).trans he2)
      have HXr2 := Lib.hid (HXL.out.trans he2)
      clear he2 c0 c1 c2 c3 c4 c5 c6 n0 n1 l1 hpl hbe
      obtain ⟨bg, og, LG, cG, hAG, g0, g1, hSG, _, _⟩ := (HGE.out.ext HX2.out).g (k := D) (by rw [gradedE_len]; exact hDl)
      subst hAG
      obtain ⟨lg, hlg⟩ : ∃ lg, lg = (gE (gradedE es cs m) D).2 := ⟨_, rfl⟩
      rw [← hlg] at g1 hSG HZG HNEh HPVh
      clear hlg g0
      obtain ⟨ng, hng⟩ : ∃ ng, ng = lg.length := ⟨_, rfl⟩
      rw [← hng] at g1
      have HNG := Lib.hid hng; have HSG := Lib.hid hSG; clear hng hSG
      obtain ⟨b0, b1⟩ := blk2 HNB.out
      go_wp2_with fail
      refine (rlength_any LG ng cG lg _ HSG.out HNG.out.symm).mono ?_
      rintro e w3 ⟨rfl, he3⟩
      rw [HZG.out]
      have HX3 := Lib.hid (HX2.out.trans he3)
      have HXr3 := Lib.hid (HXr2.out.trans he3)
      have HNB3 := Lib.hid (HNB.out.ext he3)
      clear he3 g1 b0 b1
      obtain ⟨b0, b1⟩ := blk2 HNB3.out
      go_wp2_with fail
      refine (rpartner_any (lengthN lb : Int) (lengthN lg : Int) at' false _).mono ?_
      rintro e w4 ⟨rfl, he4⟩
      rw [← HNEh.out, ← HPVh.out]
      have HX4 := Lib.hid (HX3.out.trans he4)
      have HXr4 := Lib.hid (HXr3.out.trans he4)
      clear he4 b0 b1
      obtain ⟨PV, hPV⟩ : ∃ PV, PV = plV pc m k := ⟨_, rfl⟩
      obtain ⟨NE, hNE⟩ : ∃ NE, NE = ntE pc m k := ⟨_, rfl⟩
      rw [← hPV, ← hNE]
      have HPVe := Lib.hid hPV; have HNEe := Lib.hid hNE
      clear hPV hNE HNEh HPVh
      by_cases hz : NE = 0
      rotate_left
      · have HR : Hid (plE pc m = NE) := by show _ = _; rw [HPE.out, firstE_at hlt HT.out (by rw [← HNEe.out]; exact hz), HNEe.out]
        have hzb : (NE != 0) = true := by simp [hz]
        have HZ := Lib.hid hz; clear hz
        go_wp2_with fail
        go_ret2
        exact retPd_bad HR.out HZ.out (HX1.out.trans HX4.out)
      subst hz
      have HT' := Lib.hid (firstE_succ (f := ntE pc m) HT.out HNEe.out.symm)
      have hbb : w1.heap.size ≤ w4.heap.size := HX4.out.size
      have H63 : Hid (LK.length + 1 ≤ maxLen) := by show _ ≤ _; unfold maxLen; omega
      have H64 : Hid ((LK.length + 1) * 8 ≤ 140737488355328) := by show _ ≤ _; omega
      have HC6 : Hid (w1.heap.size ≤ (w4.alloc (.cells #[.int .i64 PV] 3)).heap.size) := by show _ ≤ _; simp; omega
      go_wp2_with (at_builtin; refine wpList_append_own _ rfl (.tmp 85) (.tmp 87) 23 rfl w1.heap.size 3 i0 (.int .i64 0) 1 8 Tryz.underlying23 hi0 hz0 hz1 hz2 rfl (by decide) _ _ _ rfl (World.ownsRow.alloc (own_ext HO.out HXr4.out) _) ⟨w4.heap.size, 0, none⟩ 1 1 [.int .i64 PV] rfl rfl (World.news_of_block (cs := #[.int .i64 PV]) (t := 3) (fr := (0, 0)) (heap_alloc_new w4 _)) (by simp [Value.oneCell']) H63.out H64.out HC6.out ?_)
      intro v' w5 hown' hgrow _
      have hO' : OwnI w5 w1.heap.size v' (plTo pc m (k + 1)) := by
        rw [plTo_succ, ← HLKE.out, ← HPVe.out]
        unfold OwnI icells
        rw [List.length_append, List.map_append, hlk]
        exact hown'
      have hx' : Ext w1 w5 := (HX4.out.alloc _).grown hgrow (fun g hg => (World.ownsRow.lt HO.out g hg).1)
      have HO' := Lib.hid hO'; clear hO' hown' hgrow
      go_wp2_with fail
      go_roundw
      case rel => exact ⟨k + 1, by omega, by go_num, HT'.out, HO'.out, hx'⟩
      case measure => simp [intOf]; omega
    · obtain rfl : k = nN := by omega
      obtain ⟨c0, c1, c2, c3, c4, c5, c6⟩ := blk7 (HB1.out.ext HX.out)
      go_wp2_with fail
      go_ret2
      have hE0 : plE pc m = 0 := by rw [HPE.out]; exact HT.out
      refine ⟨_, by rw [hE0]; rfl, fun _ => ?_, fun h => absurd hE0 h, HXw.out⟩
      rw [HPL.out, ← HLKE.out]
      exact own_base_le HO.out HX1.out.size
end Go.Proofs.YtkigmpholnfkbaaGreat
