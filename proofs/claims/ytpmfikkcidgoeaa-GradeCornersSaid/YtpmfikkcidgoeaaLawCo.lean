/- GradeCorners returns true -/
import Derived.Test.YtpmfikkcidgoeaaLawBk
import Derived.Deep.CutRange
namespace Go.Proofs.Ytpmfikkcidgoeaa
open Go.RowKit
set_option maxRecDepth 100000 in
set_option maxHeartbeats 6400000 in
theorem corners_any (nm : ByteArray) (AE AN AC AW : Option Addr) (nE cE nN cN nC cC nW cW : Nat) (gr m : Int) (mt : Bool) (es : List Edge) (cs : List Spot) (ws : List Int) (ns : List Spot) (w : World) (hp : PAt w AE AN AC AW nE cE nN cN nC cC nW cW es cs ws ns) :
    Calls Try.prog 5 #[.agg #[.string nm, .slice AE nE cE, .int .i64 gr, .slice AN nN cN, .slice AC nC cC, .slice AW nW cW, .bool mt], .int .i64 m] w fun e w' => e = .returned (.bool true) ∧ Ext w w' := by
  have HP := Lib.hid hp; clear hp
  go_enter Try.func5, Try.ntmps5
  go_wp2_with fail
  refine (light_any nm AE AN AC AW nE cE nN cN nC cC nW cW gr mt es _ 40 (by omega) (HP.out.e.ext ((Ext.refl _).alloc _)) HP.out.le).mono ?_
  rintro e w1 ⟨b, rfl, he1, hb⟩
  have HB1 : Hid (Blk 27 w1 w.heap.size [.string nm, .slice AE nE cE, .int .i64 gr, .slice AN nN cN, .slice AC nC cC, .slice AW nW cW, .bool mt]) := (Blk.new' rfl).ext he1
  have HX1 := Lib.hid (((Ext.refl w).alloc _).trans he1)
  clear he1
  cases b
  · clear hb
    go_wp2_with fail
    refine (example_any _).mono ?_
    rintro e w2 ⟨rfl, he2⟩
    go_wp2_with fail
    go_ret
    exact ⟨rfl, HX1.out.trans he2⟩
  obtain ⟨hl1, hl2, hl3, hl4, hl5⟩ := hb rfl
  rw [HP.out.le] at hl1
  clear hb hl5
  have HPr := Lib.hid (HP.out.ext HX1.out)
  obtain ⟨p0, p1, p2, p3, p4, p5, p6⟩ := blk7 HB1.out
  go_wp2_with fail
  refine (graded_any nm AE AN AC AW nE cE nN cN nC cC nW cW gr m mt es cs _ HPr.out.e HPr.out.le HPr.out.ce HPr.out.ce' HPr.out.c HPr.out.lc HPr.out.nc).mono ?_
  rintro e w2 ⟨v2, rfl, hv2, hv2', he2⟩
  have HX2 := Lib.hid (HX1.out.trans he2)
  have HB2 := Lib.hid (HB1.out.ext he2)
  clear p0 p1 p2 p3 p4 p5 p6
  by_cases hz : gradedR es cs m = 0
  rotate_left
  · have hzb : (gradedR es cs m != 0) = true := by simp [hz]
    have hvn := hv2' hz
    subst hvn
    clear hv2 hv2' hz he2
    go_wp2_with fail
    refine (example_any _).mono ?_
    rintro e w3 ⟨rfl, he3⟩
    go_wp2_with fail
    go_ret
    exact ⟨rfl, HX2.out.trans he3⟩
  have hok := (gradedR_iff es cs m).1 hz
  have hv := hv2 hz
  rw [hz]
  clear hv2 hv2' hz he2
  have HOK := Lib.hid hok
  have hlC : nC = nE := by rw [← HP.out.lc, ← HP.out.le]; exact hok.len
  subst hlC
  obtain ⟨hz0, hzE⟩ := graded_zero hok
  have HZ0 := Lib.hid hz0; have HZE := Lib.hid hzE
  clear hok hz0 hzE
  obtain ⟨A2, c2, hvv, hE2, hc2, hc2'⟩ := hv.slice' (n := nC) (by rw [gradedE_len, HP.out.le])
  subst hvv
  have HE2 := Lib.hid hE2; clear hE2 hv
  obtain ⟨p0, p1, p2, p3, p4, p5, p6⟩ := blk7 HB2.out
  have HP2 := Lib.hid (HP.out.ext HX2.out)
  go_wp2_with fail
  refine (graded_any nm AE AN AC AW nC cE nN cN nC cC nW cW gr 0 mt es cs _ HP2.out.e HP2.out.le HP2.out.ce HP2.out.ce' HP2.out.c HP2.out.lc HP2.out.nc).mono ?_
  rintro e w3 ⟨v3, rfl, hv3, _, he3⟩
  have hv3 := hv3 HZ0.out
  rw [HZE.out] at hv3
  rw [HZ0.out]
  obtain ⟨A3, c3, hvv, hE3, _, _⟩ := hv3.slice' (n := nC) HP.out.le
  subst hvv
  have HE3 := Lib.hid hE3
  have HX3 := Lib.hid he3
  clear hE3 hv3 he3 p0 p1 p2 p3 p4 p5 p6
  have HB3 := Lib.hid (HB2.out.ext HX3.out)
  obtain ⟨p0, p1, p2, p3, p4, p5, p6⟩ := blk7 HB3.out
  go_wp2_with fail
  refine (sameEdges_eq A3 AE nC c3 cE es _ HE3.out (HP2.out.e.ext HX3.out) HP.out.le (by omega)).mono ?_
  rintro e w4 ⟨rfl, he4⟩
  clear p0 p1 p2 p3 p4 p5 p6
  have HX4 := Lib.hid he4; clear he4
  have HX24 := Lib.hid (HX3.out.trans HX4.out)
  have HXw4 := Lib.hid (HX2.out.trans HX24.out)
  have HB4 := Lib.hid (HB3.out.ext HX4.out)
  obtain ⟨p0, p1, p2, p3, p4, p5, p6⟩ := blk7 HB4.out
  clear p0 p2 p3 p5 p6
  go_wp2_with fail
  go_loopw [65] (fun i wr => ∃ k : Nat, k ≤ nC ∧ i = .int .i64 k ∧ Ext w4 wr) (fun i _ => nC - (intOf i).toNat)
  case atStart => exact ⟨0, Nat.zero_le _, rfl, Ext.refl _⟩
  case round =>
    clear p1 p4
    obtain ⟨k, hk, rfl, hx⟩ := hrel
    have HX := Lib.hid hx; clear hx
    by_cases hlt : k < nC
    · obtain ⟨b, off, L, cL, rfl, hc0, hc1, hS, hcL, hcL'⟩ := (HP.out.e.ext (HXw4.out.trans HX.out)).g (k := k) (by rw [HP.out.le]; exact hlt)
      obtain ⟨b2, off2, L2, cL2, rfl, hd0, hd1, hS2, hcL2, hcL2'⟩ := (HE2.out.ext (HX24.out.trans HX.out)).g (k := k) (by rw [gradedE_len, HP.out.le]; exact hlt)
      obtain ⟨b3, off3, rfl, hf0, hf1⟩ := (HP.out.c.ext (HXw4.out.trans HX.out)).g (k := k) (by rw [HP.out.lc]; exact hlt)
      obtain ⟨g1, g2, g3, g4, g5⟩ := graded_first HOK.out (i := k) (by rw [HP.out.le]; exact hlt)
      rw [g1] at hd0
      rw [g3] at hd1
      obtain ⟨sz, hsz⟩ : ∃ sz, sz = (gE es k).2.length := ⟨_, rfl⟩
      rw [← hsz] at hc1 hd1 g2 hcL
      have hS0 := hS.g (k := 0) (by omega)
      have hS20 := hS2.g (k := 0) (by rw [g3]; omega)
      obtain ⟨xb, xo, rfl, x0, x1⟩ := hS0
      obtain ⟨yb, yo, rfl, y0, y1⟩ := hS20
      simp only [Nat.zero_mul, Nat.add_zero] at x0 x1 y0 y1
      have p4 := (HB4.out.ext HX.out).cell 4
      simp only [List.getElem?_cons_succ, List.getElem?_cons_zero] at p4
      obtain ⟨X0, hX0⟩ : ∃ z, z = (gS (gE es k).2 0).1 := ⟨_, rfl⟩
      obtain ⟨X1, hX1⟩ : ∃ z, z = (gS (gE es k).2 0).2 := ⟨_, rfl⟩
      obtain ⟨Y0, hY0⟩ : ∃ z, z = (gS (gE (gradedE es cs m) k).2 0).1 := ⟨_, rfl⟩
      obtain ⟨Y1, hY1⟩ : ∃ z, z = (gS (gE (gradedE es cs m) k).2 0).2 := ⟨_, rfl⟩
      obtain ⟨D0, hD0⟩ : ∃ z, z = (gS cs k).1 := ⟨_, rfl⟩
      obtain ⟨D1, hD1⟩ : ∃ z, z = (gS cs k).2 := ⟨_, rfl⟩
      obtain ⟨N0, hN0⟩ : ∃ z, z = (gE es k).1 := ⟨_, rfl⟩
      rw [← hX0] at x0 g4
      rw [← hX1] at x1 g5
      rw [← hY0] at y0 g4
      rw [← hY1] at y1 g5
      rw [← hD0] at hf0 g4
      rw [← hD1] at hf1 g5
      rw [← hN0] at hc0 hd0
      have G4 := Lib.hid g4; have G5 := Lib.hid g5
      clear hX0 hX1 hY0 hY1 hD0 hD1 hN0 hsz hS hS2 g1 g3 hcL hcL' hcL2 hcL2' g4 g5
      have xbl : xb < wr.heap.size := cell_lt x0
      have ybl : yb < wr.heap.size := cell_lt y0
      have pbl : w.heap.size < wr.heap.size := cell_lt p4
      have b2l : b2 < wr.heap.size := cell_lt hd0
      have b3l : b3 < wr.heap.size := cell_lt hf0
      have hszb : ((sz : Int) == 0) = false := by simp; omega
      have hszp : (0 : Int) < sz := by omega
      go_upto_region 12 with fail
      refine wp_at fun W5 hW5 => ?_
      have hx5 : Ext wr W5 := by rw [hW5]; exact (Ext.refl _).alloc _
      have hXX : Blk 42 W5 wr.heap.size [.string N0, .slice (some ⟨xb, xo, none⟩) sz cL] := by rw [hW5]; exact Blk.new' rfl
      have hx5s : wr.heap.size < W5.heap.size := hXX.lt
      have d0' := hx5.cell hd0
      have d1' := hx5.cell hd1
      have f0' := hx5.cell hf0
      have f1' := hx5.cell hf1
      have p4' := hx5.cell p4
      have HX5 := Lib.hid hx5; have HXX := Lib.hid hXX
      clear hW5 hx5 hXX hc0 hc1 hd0 hd1 hf0 hf1 p4
      go_cut [11, 12, 65] from 65 to 135 (fun y d i wc => i = .int .i64 k ∧ ∃ yb' db', y = .pointer (some ⟨yb', 0, none⟩) ∧ d = .pointer (some ⟨db', 0, none⟩) ∧ Blk 42 wc yb' [.string N0, .slice (some ⟨yb, yo, none⟩) sz cL2] ∧ Blk 44 wc db' [.int .i64 D0, .int .i64 D1] ∧ Ext W5 wc)
      case first =>
        have keep : ∀ W1 : World, Ext W5 W1 → (Ext W5 W1 ∧ W1.cell? ⟨b2, off2 + k * 2, none⟩ = some (.string N0) ∧ W1.cell? ⟨b2, off2 + k * 2 + 1, none⟩ = some (.slice (some ⟨yb, yo, none⟩) sz cL2) ∧ W1.cell? ⟨w.heap.size, 4, none⟩ = some (.slice (some ⟨b3, off3, none⟩) nC cC) ∧ W1.cell? ⟨b3, off3 + k * 2, none⟩ = some (.int .i64 D0) ∧ W1.cell? ⟨b3, off3 + k * 2 + 1, none⟩ = some (.int .i64 D1)) := fun W1 hx => ⟨hx, hx.cell d0', hx.cell d1', hx.cell p4', hx.cell f0', hx.cell f1'⟩
        have KEEP := Lib.hid keep; clear keep d0' d1' p4' f0' f1'
        go_region_held3 (fun W => Ext W5 W ∧ W.cell? ⟨b2, off2 + k * 2, none⟩ = some (.string N0) ∧ W.cell? ⟨b2, off2 + k * 2 + 1, none⟩ = some (.slice (some ⟨yb, yo, none⟩) sz cL2) ∧ W.cell? ⟨w.heap.size, 4, none⟩ = some (.slice (some ⟨b3, off3, none⟩) nC cC) ∧ W.cell? ⟨b3, off3 + k * 2, none⟩ = some (.int .i64 D0) ∧ W.cell? ⟨b3, off3 + k * 2 + 1, none⟩ = some (.int .i64 D1))
          (first | assumption | exact KEEP.out _ (by repeat (first | exact Ext.refl _ | apply Ext.alloc | apply Ext.drew)) | fail)
          (first | fail)
        all_goals
          go_wp2_with fail
          go_meet
        all_goals
          refine ⟨rfl, _, _, rfl, rfl, ?_, ?_, ?_⟩
          · first
              | exact ((Blk.new' rfl).ext ((Ext.refl _).alloc _)).ext ((Ext.refl _).drew)
              | exact (Blk.new' (by simp)).ext ((Ext.refl _).drew)
              | fail
          · first
              | exact ((Blk.new' rfl).ext ((Ext.refl _).alloc _)).ext ((Ext.refl _).drew)
              | exact (Blk.new' (by simp)).ext ((Ext.refl _).drew)
              | fail
          · exact (((Ext.refl _).alloc _).alloc _).drew
      case rest =>
        obtain ⟨hi65, yb', db', hy', hd', hBy, hBd, hxc⟩ := hcut
        subst hi65 hy' hd'
        have HXC := Lib.hid (HX5.out.trans hxc)
        have x0' := HXC.out.cell x0
        have x1' := HXC.out.cell x1
        have y0' := HXC.out.cell y0
        have y1' := HXC.out.cell y1
        have v0 := (HXX.out.ext hxc).cell 0
        have v1 := (HXX.out.ext hxc).cell 1
        have z0 := hBy.cell 0
        have z1 := hBy.cell 1
        have e0 := hBd.cell 0
        have e1 := hBd.cell 1
        simp only [List.getElem?_cons_succ, List.getElem?_cons_zero] at v0 v1 z0 z1 e0 e1
        have hself : (N0.toList == N0.toList) = true := by simp
        have g4 := G4.out
        have g5 := G5.out
        clear x0 x1 y0 y1 hBy hBd hxc d0' d1' f0' f1' p4'
        go_wp2_with fail
        go_quiet (fail)
        go_wp2_with fail
        go_roundw
        case rel => exact ⟨k + 1, by omega, by go_num, Ext.drewN (HX.out.trans HXC.out) _⟩
        case measure => simp [intOf]; omega
    · obtain rfl : k = nC := by omega
      go_wp2_with fail
      refine (example_any _).mono ?_
      rintro e w5 ⟨rfl, he5⟩
      go_wp2_with fail
      go_ret
      exact ⟨rfl, (HXw4.out.trans HX.out).trans he5⟩
end Go.Proofs.Ytpmfikkcidgoeaa
