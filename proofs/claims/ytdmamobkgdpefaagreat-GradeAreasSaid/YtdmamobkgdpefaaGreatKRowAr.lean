/- The law GradeAreas: for every input it returns true and leaves its arguments as they were. No conditions. -/
import Derived.Deep.RegionHeld3
import Derived.Test.YtdmamobkgdpefaaGreatRows
import Derived.OpenShut
import Derived.Test.YtdmamobkgdpefaaGreatKSqF
import Derived.Test.YtdmamobkgdpefaaGreatKRefQ
import Derived.Test.YtdmamobkgdpefaaGreatKOpen
/- garmentlaw21.exampleHolds returns true -/
namespace Go.Proofs.YtdmamobkgdpefaaGreat
open Go.RowKit
theorem own_one {w : World} {g base : Nat} {n0 : ByteArray} {v0 : Value} {l0 : List Spot} (h : Blk 52 w g [.string n0, v0]) (hb : base ≤ g) (h0 : OwnT 59 w base v0 l0) : OwnE w base (.slice (some ⟨g, 0, none⟩) 1 1) [(n0, l0)] := by
  refine ⟨[(n0, v0)], ⟨rfl, fun k hk => ?_⟩, ?_⟩
  · match k, hk with
    | 0, _ => exact ⟨rfl, h0⟩
  · exact blk_own (R := []) (by simpa [ecells] using h) hb rfl (Nat.le_refl _) (by decide) rfl
theorem edges_new1 {w : World} {n0 : ByteArray} {v0 : Value} {l0 : List Spot} (h0 : OwnT 59 w 0 v0 l0) : EdgesAt (w.alloc (.cells #[.string n0, v0] 52)) (some ⟨w.heap.size, 0, none⟩) [(n0, l0)] := by
  have h : OwnE (w.alloc (.cells #[.string n0, v0] 52)) 0 (.slice (some ⟨w.heap.size, 0, none⟩) 1 1) [(n0, l0)] := own_one (Blk.new' rfl) (by omega) (own_ext h0 ((Ext.refl _).alloc _))
  obtain ⟨A, c, hv, he, _, _⟩ := h.slice
  injection hv with hv
  rw [hv]; exact he
set_option maxRecDepth 100000 in
set_option maxHeartbeats 6400000 in
theorem example_any (w : World) :
    Calls Tryz.prog 8 #[] w fun e w' => e = .returned (.bool true) ∧ Ext w w' := by
  go_enter Tryz.func8, Tryz.ntmps8
  go_wp2_with fail
  refine (square_any _).mono ?_
  rintro e w1 ⟨vE, vC, vW, vN, rfl, hE, hC, hW, hN, hx1⟩
  obtain ⟨AE, cE, hv, hE', hcE, hcE'⟩ := hE.slice' (n := 4) rfl
  subst hv
  obtain ⟨AC, cC, hv, hC', _⟩ := hC.slice' (n := 4) rfl
  subst hv
  obtain ⟨AW, cW, hv, hW', hpW⟩ := hW.slice' (n := 4) rfl
  subst hv
  obtain ⟨AN, cN, hv, hN', hpN⟩ := hN.slice' (n := 1) rfl
  subst hv
  have HX1 := Lib.hid hx1; have HE := Lib.hid hE'; have HC := Lib.hid hC'; have HW := Lib.hid hW'; have HN := Lib.hid hN'; have HPW := Lib.hid hpW; have HPN := Lib.hid hpN
  clear hx1 hE hE' hC hC' hW hW' hN hN' hpW hpN
  go_wp2_with fail
  refine (graded_any nmSq AE AN AC AW 4 cE 1 cN 4 cC 4 cW 1 3 false sqE sqC _ (HE.out.ext ((Ext.refl _).alloc _)) rfl hcE hcE' (HC.out.ext ((Ext.refl _).alloc _)) rfl (by decide)).mono ?_
  rintro e w2 ⟨v2, rfl, hv2, _, he2⟩
  have hP2 : Blk 27 w2 w1.heap.size [.string nmSq, .slice AE 4 cE, .int .i64 1, .slice AN 1 cN, .slice AC 4 cC, .slice AW 4 cW, .bool false] := (Blk.new' rfl).ext he2
  have hx12 : Ext w1 w2 := ((Ext.refl _).alloc _).trans he2
  have hv2 := hv2 sq_ok
  rw [sq_graded] at hv2
  rw [sq_ok]
  obtain ⟨A2, c2, hv, hE2, _, _⟩ := hv2.slice' (n := 4) rfl
  subst hv
  have HP2 := Lib.hid hP2; have HX2 := Lib.hid hx12; have HE2 := Lib.hid hE2
  clear hP2 hx12 hE2 hv2 he2
  obtain ⟨p0, p1, p2, p3, p4, p5, p6⟩ := blk7 HP2.out
  have hl2 : w1.heap.size < w2.heap.size := HP2.out.lt
  go_wp2_with fail
  have HM : Hid (IntsAt (w2.alloc (.cells #[.int .i64 0, .int .i64 3] 3)) (some ⟨w2.heap.size, 0, none⟩) [0, 3]) := (OwnI.plain (own_of_int (base := 0) (L := [0, 3]) (Blk.new' rfl) (by omega) (by decide))).2.1
  have HX12 := Lib.hid (HX2.out.alloc (.cells #[.int .i64 0, .int .i64 3] 3))
  refine (areas_any nmSq AE AN AC AW (some ⟨w2.heap.size, 0, none⟩) 4 cE 1 cN 4 cC 4 cW 2 2 1 false sqE sqC [0, 3] _ (HE.out.ext HX12.out) rfl hcE hcE' (HC.out.ext HX12.out) rfl (by decide) HM.out rfl (by decide)).mono ?_
  rintro e w3 ⟨v3, rfl, hv3, _, he3⟩
  have hx23 : Ext w2 w3 := ((Ext.refl _).alloc _).trans he3
  have hv3 := hv3 sq_areasE
  rw [sq_areas] at hv3
  rw [sq_areasE]
  obtain ⟨A3, c3, hv, hI3, _⟩ := hv3.slice' (n := 2) rfl
  subst hv
  have HX3 := Lib.hid hx23; have HI3 := Lib.hid hI3
  clear hx23 hI3 hv3 he3 p0 p1 p2 p3 p4 p5 p6
  have HP3 := Lib.hid (HP2.out.ext HX3.out)
  obtain ⟨p0, p1, p2, p3, p4, p5, p6⟩ := blk7 HP3.out
  have hl3 : w1.heap.size < w3.heap.size := HP3.out.lt
  go_wp2_with fail
  have HX13 := Lib.hid (HX2.out.trans HX3.out)
  refine (graded_any nmSq AE AN AC AW 4 cE 1 cN 4 cC 4 cW 1 101 false sqE sqC _ (HE.out.ext HX13.out) rfl hcE hcE' (HC.out.ext HX13.out) rfl (by decide)).mono ?_
  rintro e w4 ⟨v4, rfl, _, hv4, he4⟩
  have hv4 := hv4 (by rw [sq_bad]; decide)
  subst hv4
  rw [sq_bad]
  have HX4 := Lib.hid he4
  clear he4 p0 p1 p2 p3 p4 p5 p6
  have HP4 := Lib.hid (HP3.out.ext HX4.out)
  obtain ⟨p0, p1, p2, p3, p4, p5, p6⟩ := blk7 HP4.out
  have hl4 : w1.heap.size < w4.heap.size := HP4.out.lt
  go_wp2_with fail
  have HX14 := Lib.hid (HX13.out.trans HX4.out)
  refine (turned_any nmSq AE AN AC AW 4 cE 1 cN 4 cC 4 cW 1 false true 0 sqE sqC sqW sqN' _ (HE.out.ext HX14.out) rfl (by decide) (by decide) (HC.out.ext HX14.out) rfl (by decide) (HW.out.ext HX14.out) rfl (by decide) (HN.out.ext HX14.out) rfl (by decide) HPW.out HPN.out).mono ?_
  rintro e w5 ⟨uE, uC, uW, uN, rfl, hE5, hC5, hW5, hN5, hx5⟩
  obtain ⟨BE, dE, hv, hE5', hdE, hdE'⟩ := hE5.slice' (n := 4) sq_l1
  subst hv
  obtain ⟨BC, dC, hv, hC5', _⟩ := hC5.slice' (n := 4) sq_l2
  subst hv
  obtain ⟨BW, dW, hv, hW5', _⟩ := hW5.slice' (n := 4) (by rw [sq_width]; rfl)
  subst hv
  obtain ⟨BN, dN, hv, hN5', _⟩ := hN5.slice' (n := 1) sq_l3
  subst hv
  have HX5 := Lib.hid hx5; have HE5 := Lib.hid hE5'; have HC5 := Lib.hid hC5'; have HW5 := Lib.hid hW5'; have HN5 := Lib.hid hN5'
  clear hx5 hE5 hE5' hC5 hC5' hW5 hW5' hN5 hN5' p0 p1 p2 p3 p4 p5 p6
  go_wp2_with fail
  refine (edge_any ⟨#[97]⟩ (w5.heap.size + 1) 0 4 0 0 16 0 _ ⟨by simp [go_sem], by simp [go_sem], by simp [go_sem], by simp [go_sem]⟩).mono ?_
  rintro e w6 ⟨y6, rfl, ho, he⟩
  have hQ6 : Blk 27 w6 w5.heap.size [.string nmSq, .slice BE 4 dE, .int .i64 1, .slice BN 1 dN, .slice BC 4 dC, .slice BW 4 dW, .bool false] := ((Blk.new' rfl).ext ((Ext.refl _).alloc _)).ext he
  have hxx : Ext w5 w6 := (((Ext.refl _).alloc _).alloc _).trans he
  have HQ6 := Lib.hid hQ6; clear hQ6
  have hO : OwnT 59 w6 0 y6 (pairs4 0 0 16 0) := ho.base_le (by omega)
  clear he ho
  obtain ⟨F6, f6, hv⟩ := hO.form2
  subst hv
  have HX6 := Lib.hid hxx; have HO6 := Lib.hid hO; clear hxx hO
  have hl6 := HX6.out.size
  go_wp2_with fail
  refine (edge_any ⟨#[98]⟩ w6.heap.size 0 4 16 0 16 13 _ ⟨by simp [go_sem], by simp [go_sem], by simp [go_sem], by simp [go_sem]⟩).mono ?_
  rintro e w7 ⟨y7, rfl, ho, he⟩
  have hxx : Ext w6 w7 := ((Ext.refl _).alloc _).trans he
  have hO : OwnT 59 w7 0 y7 (pairs4 16 0 16 13) := ho.base_le (by omega)
  clear he ho
  obtain ⟨F7, f7, hv⟩ := hO.form2
  subst hv
  have HX7 := Lib.hid hxx; have HO7 := Lib.hid hO; clear hxx hO
  have hl7 := HX7.out.size
  go_wp2_with fail
  refine (edge_any ⟨#[99]⟩ w7.heap.size 0 4 16 13 0 13 _ ⟨by simp [go_sem], by simp [go_sem], by simp [go_sem], by simp [go_sem]⟩).mono ?_
  rintro e w8 ⟨y8, rfl, ho, he⟩
  have hxx : Ext w7 w8 := ((Ext.refl _).alloc _).trans he
  have hO : OwnT 59 w8 0 y8 (pairs4 16 13 0 13) := ho.base_le (by omega)
  clear he ho
  obtain ⟨F8, f8, hv⟩ := hO.form2
  subst hv
  have HX8 := Lib.hid hxx; have HO8 := Lib.hid hO; clear hxx hO
  have hl8 := HX8.out.size
  go_wp2_with fail
  refine (edge_any ⟨#[100]⟩ w8.heap.size 0 4 0 13 0 0 _ ⟨by simp [go_sem], by simp [go_sem], by simp [go_sem], by simp [go_sem]⟩).mono ?_
  rintro e w9 ⟨y9, rfl, ho, he⟩
  have hxx : Ext w8 w9 := ((Ext.refl _).alloc _).trans he
  have hO : OwnT 59 w9 0 y9 (pairs4 0 13 0 0) := ho.base_le (by omega)
  clear he ho
  obtain ⟨F9, f9, hv⟩ := hO.form2
  subst hv
  have HX9 := Lib.hid hxx; have HO9 := Lib.hid hO; clear hxx hO
  have hl9 := HX9.out.size
  go_wp2_with fail
  refine wp_at fun W0 hW0 => ?_
  have HX59 := Lib.hid (((HX6.out.trans HX7.out).trans HX8.out).trans HX9.out)
  have HX9W : Hid (Ext w9 W0) := by show Ext w9 W0; rw [hW0]; exact (Ext.refl _).alloc _
  have HX5W := Lib.hid (HX59.out.trans HX9W.out)
  have HX3W := Lib.hid ((HX4.out.trans HX5.out).trans HX5W.out)
  have HX2W := Lib.hid (HX3.out.trans HX3W.out)
  have HWANT : Hid (EdgesAt W0 (some ⟨w9.heap.size, 0, none⟩) wantE) := by
    show EdgesAt W0 (some ⟨w9.heap.size, 0, none⟩) wantE
    have h : OwnE W0 0 (.slice (some ⟨w9.heap.size, 0, none⟩) 4 4) wantE := own_four (by rw [hW0]; exact Blk.new' rfl) (by omega) (own_ext HO6.out (((HX7.out.trans HX8.out).trans HX9.out).trans HX9W.out)) (own_ext HO7.out ((HX8.out.trans HX9.out).trans HX9W.out)) (own_ext HO8.out (HX9.out.trans HX9W.out)) (own_ext HO9.out HX9W.out)
    obtain ⟨A, c, hv, he, _, _⟩ := h.slice
    injection hv with hv
    rw [hv]; exact he
  clear hW0
  have HQ := Lib.hid (HQ6.out.ext (((HX7.out.trans HX8.out).trans HX9.out).trans HX9W.out))
  have HEQ := Lib.hid (HE5.out.ext HX5W.out)
  have HCQ := Lib.hid (HC5.out.ext HX5W.out)
  have HWQ := Lib.hid (HW5.out.ext HX5W.out)
  have HNQ := Lib.hid (HN5.out.ext HX5W.out)
  have HLQ := Lib.hid (HE2.out.ext HX2W.out)
  have HAQ := Lib.hid (HI3.out.ext HX3W.out)
  have HXW := Lib.hid (((HX1.out.trans HX2.out).trans HX2W.out))
  obtain ⟨_, q1, _, q3, q4, q5, _⟩ := blk7 HQ.out
  obtain ⟨bc, oc, hbc, hc0, hc1⟩ := HCQ.out.g (k := 0) (by rw [sq_l2]; decide)
  subst hbc
  obtain ⟨bn, on, hbn, hn0, hn1⟩ := HNQ.out.g (k := 0) (by rw [sq_l3]; decide)
  subst hbn
  rw [sq_corner] at hc0 hc1
  rw [sq_notch] at hn0 hn1
  simp only [Nat.zero_mul, Nat.add_zero] at hc0 hc1 hn0 hn1
  obtain ⟨be, oe, _, _, hbe, _⟩ := HEQ.out.g (k := 0) (by rw [sq_l1]; decide)
  subst hbe
  have HET : Hid (EdgesAt W0 (some ⟨be, oe, none⟩) [(nmA, pairs4 (-10) 0 0 0)]) := by
    have h := HEQ.out.take1 1
    rw [sq_turn] at h
    exact h
  rw [sq_width] at HWQ
  have keep : ∀ W W1 : World, (Ext W0 W ∧ W.cell? ⟨w5.heap.size, 1, none⟩ = some (.slice (some ⟨be, oe, none⟩) 4 dE) ∧ W.cell? ⟨w5.heap.size, 3, none⟩ = some (.slice (some ⟨bn, on, none⟩) 1 dN) ∧ W.cell? ⟨w5.heap.size, 4, none⟩ = some (.slice (some ⟨bc, oc, none⟩) 4 dC) ∧ W.cell? ⟨w5.heap.size, 5, none⟩ = some (.slice BW 4 dW) ∧ W.cell? ⟨bc, oc, none⟩ = some (.int .i64 (-2)) ∧ W.cell? ⟨bc, oc + 1, none⟩ = some (.int .i64 0) ∧ W.cell? ⟨bn, on, none⟩ = some (.int .i64 3) ∧ W.cell? ⟨bn, on + 1, none⟩ = some (.int .i64 6000)) → Ext W W1 → (Ext W0 W1 ∧ W1.cell? ⟨w5.heap.size, 1, none⟩ = some (.slice (some ⟨be, oe, none⟩) 4 dE) ∧ W1.cell? ⟨w5.heap.size, 3, none⟩ = some (.slice (some ⟨bn, on, none⟩) 1 dN) ∧ W1.cell? ⟨w5.heap.size, 4, none⟩ = some (.slice (some ⟨bc, oc, none⟩) 4 dC) ∧ W1.cell? ⟨w5.heap.size, 5, none⟩ = some (.slice BW 4 dW) ∧ W1.cell? ⟨bc, oc, none⟩ = some (.int .i64 (-2)) ∧ W1.cell? ⟨bc, oc + 1, none⟩ = some (.int .i64 0) ∧ W1.cell? ⟨bn, on, none⟩ = some (.int .i64 3) ∧ W1.cell? ⟨bn, on + 1, none⟩ = some (.int .i64 6000)) := fun W W1 ⟨h0, h1, h2, h3, h4, h5, h6, h7, h8⟩ hx => ⟨h0.trans hx, hx.cell h1, hx.cell h2, hx.cell h3, hx.cell h4, hx.cell h5, hx.cell h6, hx.cell h7, hx.cell h8⟩
  have KEEP := Lib.hid keep; clear keep
  have getw : ∀ W : World, (Ext W0 W ∧ W.cell? ⟨w5.heap.size, 1, none⟩ = some (.slice (some ⟨be, oe, none⟩) 4 dE) ∧ W.cell? ⟨w5.heap.size, 3, none⟩ = some (.slice (some ⟨bn, on, none⟩) 1 dN) ∧ W.cell? ⟨w5.heap.size, 4, none⟩ = some (.slice (some ⟨bc, oc, none⟩) 4 dC) ∧ W.cell? ⟨w5.heap.size, 5, none⟩ = some (.slice BW 4 dW) ∧ W.cell? ⟨bc, oc, none⟩ = some (.int .i64 (-2)) ∧ W.cell? ⟨bc, oc + 1, none⟩ = some (.int .i64 0) ∧ W.cell? ⟨bn, on, none⟩ = some (.int .i64 3) ∧ W.cell? ⟨bn, on + 1, none⟩ = some (.int .i64 6000)) → Ext W0 W := fun W h => h.1
  have GETW := Lib.hid getw; clear getw
  have START : Hid (Ext W0 W0 ∧ W0.cell? ⟨w5.heap.size, 1, none⟩ = some (.slice (some ⟨be, oe, none⟩) 4 dE) ∧ W0.cell? ⟨w5.heap.size, 3, none⟩ = some (.slice (some ⟨bn, on, none⟩) 1 dN) ∧ W0.cell? ⟨w5.heap.size, 4, none⟩ = some (.slice (some ⟨bc, oc, none⟩) 4 dC) ∧ W0.cell? ⟨w5.heap.size, 5, none⟩ = some (.slice BW 4 dW) ∧ W0.cell? ⟨bc, oc, none⟩ = some (.int .i64 (-2)) ∧ W0.cell? ⟨bc, oc + 1, none⟩ = some (.int .i64 0) ∧ W0.cell? ⟨bn, on, none⟩ = some (.int .i64 3) ∧ W0.cell? ⟨bn, on + 1, none⟩ = some (.int .i64 6000)) := ⟨Ext.refl _, q1, q3, q4, q5, hc0, hc1, hn0, hn1⟩
  clear q1 q3 q4 q5 hc0 hc1 hn0 hn1
  have hd1 : (1 : Int) ≤ (dE : Int) := by omega
  have hd2 : 1 ≤ dE := by omega
  clear hl2 hl3 hl4 hl6 hl7 hl8 hl9 hcE hcE' hdE'
  go_region_held3 (fun W => Ext W0 W ∧ W.cell? ⟨w5.heap.size, 1, none⟩ = some (.slice (some ⟨be, oe, none⟩) 4 dE) ∧ W.cell? ⟨w5.heap.size, 3, none⟩ = some (.slice (some ⟨bn, on, none⟩) 1 dN) ∧ W.cell? ⟨w5.heap.size, 4, none⟩ = some (.slice (some ⟨bc, oc, none⟩) 4 dC) ∧ W.cell? ⟨w5.heap.size, 5, none⟩ = some (.slice BW 4 dW) ∧ W.cell? ⟨bc, oc, none⟩ = some (.int .i64 (-2)) ∧ W.cell? ⟨bc, oc + 1, none⟩ = some (.int .i64 0) ∧ W.cell? ⟨bn, on, none⟩ = some (.int .i64 3) ∧ W.cell? ⟨bn, on + 1, none⟩ = some (.int .i64 6000))
    (first | assumption | exact KEEP.out W0 _ START.out (Ext.drew (Ext.refl _)) | exact KEEP.out _ _ ‹_› ‹_› | exact KEEP.out _ _ ‹_› (Ext.alloc (Ext.refl _) _) | fail)
    (first
      | (go_at_call 11; have _t := hxe; refine (sameEdges_eq (some ⟨be, oe, none⟩) (some ⟨_, 0, none⟩) 1 dE 1 [(nmA, pairs4 (-10) 0 0 0)] _ (HET.out.ext (GETW.out _ ‹_›)) (edges_new1 hoe) rfl (by decide)).mono ?_; rintro e wf ⟨rfl, hxf⟩)
      | (go_at_call 11; refine (sameEdges_eq A2 (some ⟨w9.heap.size, 0, none⟩) 4 c2 4 wantE _ (HLQ.out.ext (GETW.out _ ‹_›)) (HWANT.out.ext (GETW.out _ ‹_›)) rfl (by decide)).mono ?_; rintro e wa ⟨rfl, hxa⟩)
      | (go_at_call 14; have _t := hxe; refine (sameInts_eq BW (some ⟨_, 0, none⟩) 4 dW 4 [1, 4, 3, 2] _ (HWQ.out.ext (GETW.out _ ‹_›)) (IntsAt.new _ [1, 4, 3, 2] (by decide)) rfl (by decide)).mono ?_; rintro e wg ⟨rfl, hxg⟩)
      | (go_at_call 14; refine (sameInts_eq A3 (some ⟨_, 0, none⟩) 2 c3 2 [200, 416] _ (HAQ.out.ext (GETW.out _ ‹_›)) (IntsAt.new _ [200, 416] (by decide)) rfl (by decide)).mono ?_; rintro e wb ⟨rfl, hxb⟩)
      | (go_at_call 23; refine (edge_any ⟨#[97]⟩ _ 0 4 (-10) 0 0 0 _ ⟨by simp [go_sem], by simp [go_sem], by simp [go_sem], by simp [go_sem]⟩).mono ?_; rintro e we ⟨ye, rfl, hoe', hxe⟩; have hoe := hoe'.base_le (Nat.zero_le _); obtain ⟨Fe, fe, rfl⟩ := hoe.form2)
      | fail)
  go_wp2_with fail
  go_ret
  exact ⟨rfl, HXW.out.trans (GETW.out _ ‹_›)⟩
end Go.Proofs.YtdmamobkgdpefaaGreat
/- GradeAreas returns true -/
namespace Go.Proofs.YtdmamobkgdpefaaGreat
open Go.RowKit
set_option maxRecDepth 100000 in
set_option maxHeartbeats 3200000 in
theorem areasL_any (nm : ByteArray) (AE AN AC AW : Option Addr) (nE cE nN cN nC cC nW cW : Nat) (gr : Int) (AM : Option Addr) (nM cM : Nat) (ms : List Int) (mt : Bool) (es : List Edge) (cs : List Spot) (ws : List Int) (ns : List Spot) (w : World) (hp : PAt w AE AN AC AW nE cE nN cN nC cC nW cW es cs ws ns) (hM : IntsAt w AM ms) (hlM : ms.length = nM) :
    Calls Tryz.prog 4 #[.agg #[.string nm, .slice AE nE cE, .int .i64 gr, .slice AN nN cN, .slice AC nC cC, .slice AW nW cW, .bool mt], .slice AM nM cM] w fun e w' => e = .returned (.bool true) ∧ Ext w w' := by
  have HP := Lib.hid hp; clear hp
  have HM := Lib.hid hM; have HLM := Lib.hid hlM; clear hM hlM
  go_enter Tryz.func4, Tryz.ntmps4
  go_wp2_with fail
  refine (light_any nm AE AN AC AW nE cE nN cN nC cC nW cW gr mt es _ 40 (by omega) (HP.out.e.ext ((Ext.refl _).alloc _)) HP.out.le).mono ?_
  rintro e w1 ⟨b, rfl, he1, hb⟩
  have HB1 : Hid (Blk 27 w1 w.heap.size [.string nm, .slice AE nE cE, .int .i64 gr, .slice AN nN cN, .slice AC nC cC, .slice AW nW cW, .bool mt]) := (Blk.new' rfl).ext he1
  have HX1 := Lib.hid (((Ext.refl w).alloc _).trans he1)
  clear he1
  cases b
  · clear hb
    go_wp2_with fail
    refine (example_any _).mono ?_
    rintro e w2 ⟨rfl, he2⟩
    go_wp2_with fail
    go_ret
    exact ⟨rfl, HX1.out.trans he2⟩
  by_cases hm6 : 6 < nM
  · clear hb
    go_wp2_with fail
    refine (example_any _).mono ?_
    rintro e w2 ⟨rfl, he2⟩
    go_wp2_with fail
    go_ret
    exact ⟨rfl, HX1.out.trans he2⟩
  obtain ⟨hl1, hl2, hl3, hl4, hl5⟩ := hb rfl
  rw [HP.out.le] at hl1
  clear hb hl5
  have HP1 := Lib.hid (HP.out.ext HX1.out)
  obtain ⟨p0, p1, p2, p3, p4, p5, p6⟩ := blk7 HB1.out
  go_wp2_with fail
  refine (areas_any nm AE AN AC AW AM nE cE nN cN nC cC nW cW nM cM gr mt es cs ms w1 HP1.out.e HP.out.le HP.out.ce HP.out.ce' HP1.out.c HP.out.lc (by omega) (HM.out.ext HX1.out) HLM.out (by omega)).mono ?_
  rintro e w2 ⟨v2, rfl, hv2, hv2', he2⟩
  have HB2 := Lib.hid (HB1.out.ext he2); have HX2 := Lib.hid (HX1.out.trans he2)
  have HP2 := Lib.hid (HP.out.ext HX2.out)
  clear he2 p0 p1 p2 p3 p4 p5 p6
  obtain ⟨x, hx⟩ : ∃ x, x = areasE es cs ms := ⟨_, rfl⟩
  rw [← hx] at hv2 hv2' ⊢
  have HXE := Lib.hid hx; clear hx
  have hself : (x == x) = true := by simp
  obtain ⟨p0, p1, p2, p3, p4, p5, p6⟩ := blk7 HB2.out
  by_cases hz : x = 0
  · have hO2 := hv2 hz
    obtain ⟨A2, c2, hvf, hE2, _⟩ := OwnI.slice' (n := nM) hO2 (by rw [List.length_map, HLM.out])
    subst hvf
    have HE2 := Lib.hid hE2; have HZ := Lib.hid hz; clear hv2 hv2' hO2 hE2 hz
    go_wp2_with fail
    refine (rareas_any nm AE AN AC AW AM nE cE nN cN nC cC nW cW nM cM gr mt es cs ms w2 HP2.out.e HP.out.le (by omega) HP2.out.c HP.out.lc (by omega) (HM.out.ext HX2.out) HLM.out (by omega)).mono ?_
    rintro e w3 ⟨v3, rfl, hv3, hv3', he3⟩
    rw [← HXE.out] at hv3 hv3' ⊢
    have hO3 := hv3 HZ.out
    obtain ⟨A3, c3, hvf, hE3, _⟩ := OwnI.slice' (n := nM) hO3 (by rw [List.length_map, HLM.out])
    subst hvf
    have HE3 := Lib.hid hE3; have HX3 := Lib.hid (HX2.out.trans he3); have HE23 := Lib.hid (HE2.out.ext he3)
    clear hv3 hv3' hO3 hE3 he3 p0 p1 p2 p3 p4 p5 p6
    go_wp2_with fail
    refine (sameInts_eq A2 A3 nM c2 c3 (ms.map (areaAt es cs)) _ HE23.out HE3.out (by rw [List.length_map, HLM.out]) (by omega)).mono ?_
    rintro e w4 ⟨rfl, he4⟩
    go_wp2_with fail
    refine (example_any _).mono ?_
    rintro e w5 ⟨rfl, he5⟩
    go_wp2_with fail
    go_ret
    exact ⟨rfl, (HX3.out.trans he4).trans he5⟩
  · have hvf := hv2' hz
    subst hvf
    have HZ := Lib.hid hz; clear hv2 hv2' hz
    go_wp2_with fail
    refine (rareas_any nm AE AN AC AW AM nE cE nN cN nC cC nW cW nM cM gr mt es cs ms w2 HP2.out.e HP.out.le (by omega) HP2.out.c HP.out.lc (by omega) (HM.out.ext HX2.out) HLM.out (by omega)).mono ?_
    rintro e w3 ⟨v3, rfl, hv3, hv3', he3⟩
    rw [← HXE.out] at hv3 hv3' ⊢
    have hvf := hv3' HZ.out
    subst hvf
    have HX3 := Lib.hid (HX2.out.trans he3)
    clear hv3 hv3' he3 p0 p1 p2 p3 p4 p5 p6
    go_wp2_with fail
    refine (sameInts_eq none none 0 0 0 [] _ IntsAt.nil IntsAt.nil rfl (by omega)).mono ?_
    rintro e w4 ⟨rfl, he4⟩
    go_wp2_with fail
    refine (example_any _).mono ?_
    rintro e w5 ⟨rfl, he5⟩
    go_wp2_with fail
    go_ret
    exact ⟨rfl, (HX3.out.trans he4).trans he5⟩
end Go.Proofs.YtdmamobkgdpefaaGreat
namespace Go.Proofs.YtdmamobkgdpefaaGreat
open Go.ChangeShapes Go.WideShapes Go.ChangeAt Go.RowKit Go.Deep Go.Joins
set_option maxRecDepth 100000 in
theorem gradeAreas_lifted (os : Os) (started : os.Started) (H : Type) (enc : TypeId × Value → H) :
    ReturnsInHanded {} Tryz.checked os 4 .any (Rows.gradeAreasSpec.pre6 enc Tryz.prog Tryz.f4 Rows.gradeAreasRow.domain false) (Rows.gradeAreasSpec.post enc Tryz.prog Tryz.f4 false true false false) := by
  refine returnsInHanded_of_change (C := Tryz.checked) Tryz.own started (by kernel_rfl) Tryz.func4
    (ChangeSpec.witness6 (enc := enc) (C := Tryz.checked) false ⟨#[], #[.agg #[.string ⟨#[]⟩, .slice none 0 0, .int .i64 0, .slice none 0 0, .slice none 0 0, .slice none 0 0, .bool false], .slice none 0 0], []⟩ 8 (by kernel_rfl) (by kernel_rfl) (by kernel_rfl) (by kernel_rfl)) ?_
  intro W base args ds gs before hval0 hW hcnd _
  have hval : ∀ (j : Nat) t v, Tryz.f4.params[j]? = some t → args[j]? = some v → Value.okWide Tryz.prog W .any base t v := hval0
  have hW' := hW
  obtain ⟨p, q, hA0, hV, rfl, hfz, hnd⟩ := hW
  have hA : DataW.TrodAll enc Tryz.prog W 0 (fun _ => true) true Tryz.f4.params.toList args.toList ds p := hA0
  rw [Tryz.params4] at hA hval
  obtain ⟨v0, vs0, d0, ds0, p0, q0, hargs, rfl, rfl, h0, r0⟩ := trodAll_cons hA
  obtain ⟨v1, vs1, d1, ds1, p1, q1, rfl, rfl, rfl, h1, r1⟩ := trodAll_cons r0
  obtain ⟨rfl, rfl, rfl⟩ := trodAll_nil r1
  obtain rfl : args = #[v0, v1] := by cases args; simp_all
  obtain ⟨rfl, rfl⟩ := trodVars_none hV
  have k0 := h0
  have lt0 : ∀ x ∈ p0, x.block < W.heap.size := by obtain ⟨m, hm⟩ := k0; exact DataW.trod_lt m _ _ _ hm
  obtain ⟨nm0, AE0, nE0, cE0, gr0, AN0, nN0, cN0, AC0, nC0, cC0, AW0, nW0, cW0, mt0, es0, cs0, ws0, ns0, hv0, hp0⟩ := piece_open (hval 0 27 v0 rfl rfl) h0
  subst hv0
  have k1 := h1
  have lt1 : ∀ x ∈ p1, x.block < W.heap.size := by obtain ⟨m, hm⟩ := k1; exact DataW.trod_lt m _ _ _ hm
  obtain ⟨AM1, nM1, cM1, ms1, hv1, hM1, lM1⟩ := ints_arg (hval 1 25 v1 rfl rfl) h1
  subst hv1
  clear hA0 hval0
  refine (areasL_any nm0 AE0 AN0 AC0 AW0 nE0 cE0 nN0 cN0 nC0 cC0 nW0 cW0 gr0 AM1 nM1 cM1 ms1 mt0 es0 cs0 ws0 ns0 W hp0 hM1 lM1).mono fun e W' ⟨he, bel⟩ => ?_
  subst he
  exact ⟨_, rfl, _, _, _, [], _, [], hW', trodAll_mk1 (shut_bool Tryz.underlying4 _), (trodAll_cons_mk (Below.trod Tryz.laidOut (by kernel_rfl) (of_decide_eq_true (by kernel_rfl)) k0 bel lt0) (trodAll_cons_mk (Below.trod Tryz.laidOut (by kernel_rfl) (of_decide_eq_true (by kernel_rfl)) k1 bel lt1) trodAll_mk0)), rfl, Below.frame bel _, fun h => by cases h⟩
theorem gradeAreas_holds : Rows.GradeAreasSaid :=
  OpenClaim.holds_of_wide 4 Tryz.f4 rfl rfl rfl rfl rfl rfl rfl ⟨rfl, rfl, rfl, rfl, rfl⟩ rfl rfl rfl rfl rfl (by kernel_rfl) Tryz.func4 (by kernel_rfl)
    (of_decide_eq_true (by kernel_rfl)) (by unfold Func.isWrapper; first | (rw [if_pos (by decide +kernel)]; kernel_rfl) | (rw [if_neg (by decide +kernel)]; exact ⟨rfl, rfl⟩))
    (fun os started H enc _ => gradeAreas_lifted os started H enc)
end Go.Proofs.YtdmamobkgdpefaaGreat

