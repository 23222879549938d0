/- the chapter's example, in plain numbers -/
import Derived.Test.YtdmamobkgdpefaaGreatKEdge
import Derived.Test.YtdmamobkgdpefaaGreatKTurned
import Derived.Test.YtdmamobkgdpefaaGreatKAreas
/- garmentlaw21.square -/
namespace Go.Proofs.YtdmamobkgdpefaaGreat
open Go.RowKit
def nmA : ByteArray := ⟨#[97]⟩
def nmB : ByteArray := ⟨#[98]⟩
def nmC : ByteArray := ⟨#[99]⟩
def nmD : ByteArray := ⟨#[100]⟩
def nmSq : ByteArray := ⟨#[115, 113, 117, 97, 114, 101]⟩
def sqE : List Edge := [(nmA, pairs4 0 0 10 0), (nmB, pairs4 10 0 10 10), (nmC, pairs4 10 10 0 10), (nmD, pairs4 0 10 0 0)]
def sqC : List Spot := [(0, 0), (2, 0), (2, 1), (0, 1)]
def sqW : List Int := [1, 2, 3, 4]
def sqN' : List Spot := [(1, 4000)]
theorem own_four {w : World} {g base : Nat} {n0 n1 n2 n3 : ByteArray} {v0 v1 v2 v3 : Value} {l0 l1 l2 l3 : List Spot} (h : Blk 52 w g [.string n0, v0, .string n1, v1, .string n2, v2, .string n3, v3]) (hb : base ≤ g)
    (h0 : OwnT 59 w base v0 l0) (h1 : OwnT 59 w base v1 l1) (h2 : OwnT 59 w base v2 l2) (h3 : OwnT 59 w base v3 l3) :
    OwnE w base (.slice (some ⟨g, 0, none⟩) 4 4) [(n0, l0), (n1, l1), (n2, l2), (n3, l3)] := by
  refine ⟨[(n0, v0), (n1, v1), (n2, v2), (n3, v3)], ⟨rfl, fun k hk => ?_⟩, ?_⟩
  · match k, hk with
    | 0, _ => exact ⟨rfl, h0⟩
    | 1, _ => exact ⟨rfl, h1⟩
    | 2, _ => exact ⟨rfl, h2⟩
    | 3, _ => exact ⟨rfl, h3⟩
  · exact blk_own (R := []) (by simpa [ecells] using h) hb rfl (Nat.le_refl _) (by decide) rfl
theorem own_piece {t : TypeId} {w w' : World} {base sb : Nat} {v : Value} {L : List Spot} {sc : List Value} (h : OwnT t w base v L) (hS : Blk 27 w sb sc) (ht : t ≠ 27) (hk : Kept (fun k => k = sb) w w') : OwnT t w' base v L :=
  own_kept h hk fun b hb e => by subst e; exact own_blk_ne h hS ht hb
theorem square_fin {w w4 W5 : World} {sc : List Value} {v1 v2 v3 v4 : Value} (hk : Kept (fun k => k = w.heap.size) w4 W5) (hsz : W5.heap.size = w4.heap.size) (hS : Blk 27 w4 w.heap.size sc) (hx : Ext w w4)
    (hW : Blk 3 w4 (w.heap.size + 1) (icells sqW)) (hN : Blk 61 w4 (w.heap.size + 1 + 1) (scells sqN'))
    (h1 : OwnT 59 w4 w.heap.size v1 (pairs4 0 0 10 0)) (h2 : OwnT 59 w4 w.heap.size v2 (pairs4 10 0 10 10)) (h3 : OwnT 59 w4 w.heap.size v3 (pairs4 10 10 0 10)) (h4 : OwnT 59 w4 w.heap.size v4 (pairs4 0 10 0 0)) :
    RetT w nmSq 1 false sqE sqC sqW sqN' (.returned (.agg #[.string ⟨#[115, 113, 117, 97, 114, 101]⟩, .slice (some ⟨w4.heap.size, 0, none⟩) 4 4, .int .i64 1, .slice (some ⟨w.heap.size + 1 + 1, 0, none⟩) 1 1, .slice (some ⟨w4.heap.size + 1, 0, none⟩) 4 4, .slice (some ⟨w.heap.size + 1, 0, none⟩) 4 4, .bool false]))
      ((W5.alloc (.cells #[.string ⟨#[97]⟩, v1, .string ⟨#[98]⟩, v2, .string ⟨#[99]⟩, v3, .string ⟨#[100]⟩, v4] 52)).alloc (.cells #[.int .i64 0, .int .i64 0, .int .i64 2, .int .i64 0, .int .i64 2, .int .i64 1, .int .i64 0, .int .i64 1] 59)) := by
  have hx1 : Ext W5 ((W5.alloc (.cells #[.string ⟨#[97]⟩, v1, .string ⟨#[98]⟩, v2, .string ⟨#[99]⟩, v3, .string ⟨#[100]⟩, v4] 52)).alloc (.cells #[.int .i64 0, .int .i64 0, .int .i64 2, .int .i64 0, .int .i64 2, .int .i64 1, .int .i64 0, .int .i64 1] 59)) := ((Ext.refl _).alloc _).alloc _
  have hle := Ext.size hx
  refine ⟨_, _, _, _, rfl, ?_, ?_, ?_, ?_, ?_⟩
  · refine own_four (((Blk.new' (cs := [.string ⟨#[97]⟩, v1, .string ⟨#[98]⟩, v2, .string ⟨#[99]⟩, v3, .string ⟨#[100]⟩, v4]) hsz.symm)).ext ((Ext.refl _).alloc _)) hle ?_ ?_ ?_ ?_
    · exact own_ext (own_piece h1 hS (by decide) hk) hx1
    · exact own_ext (own_piece h2 hS (by decide) hk) hx1
    · exact own_ext (own_piece h3 hS (by decide) hk) hx1
    · exact own_ext (own_piece h4 hS (by decide) hk) hx1
  · exact own_of_blk (L := sqC) (Blk.new' (by simp [hsz])) (by omega) (by decide)
  · exact own_of_int (L := sqW) ((hk.blk hW (by omega)).ext hx1) (by omega) (by decide)
  · exact own_of_blk (L := sqN') ((hk.blk hN (by omega)).ext hx1) (by omega) (by decide)
  · exact (hk.ext hx (fun k e => by omega)).trans hx1
set_option maxRecDepth 100000 in
set_option maxHeartbeats 3200000 in
theorem square_any (w : World) :
    Calls Tryz.prog 21 #[] w (RetT w nmSq 1 false sqE sqC sqW sqN') := by
  go_enter Tryz.func21, Tryz.ntmps21
  go_wp2_with fail
  refine (edge_any ⟨#[97]⟩ (w.heap.size + 1 + 1 + 1) 0 4 0 0 10 0 _ ⟨by simp [go_sem], by simp [go_sem], by simp [go_sem], by simp [go_sem]⟩).mono ?_
  rintro e w1 ⟨v1, rfl, ho1, he1⟩
  have hS1 : Blk 27 w1 w.heap.size [.string ⟨#[]⟩, .slice none 0 0, .int .i64 0, .slice none 0 0, .slice none 0 0, .slice none 0 0, .bool false] := ((((Blk.new' rfl).ext ((Ext.refl _).alloc _)).ext ((Ext.refl _).alloc _)).ext ((Ext.refl _).alloc _)).ext he1
  have hW1 : Blk 3 w1 (w.heap.size + 1) (icells sqW) := (((Blk.new' (by simp)).ext ((Ext.refl _).alloc _)).ext ((Ext.refl _).alloc _)).ext he1
  have hN1 : Blk 61 w1 (w.heap.size + 1 + 1) (scells sqN') := ((Blk.new' (by simp)).ext ((Ext.refl _).alloc _)).ext he1
  have hx1 : Ext w w1 := (((((Ext.refl _).alloc _).alloc _).alloc _).alloc _).trans he1
  have hO1 : OwnT 59 w1 w.heap.size v1 (pairs4 0 0 10 0) := ho1.base_le (by simp; omega)
  clear he1 ho1
  obtain ⟨B1, k1, hv1⟩ := hO1.form2
  subst hv1
  have HS1 := Lib.hid hS1; have HW1 := Lib.hid hW1; have HN1 := Lib.hid hN1; have HX1 := Lib.hid hx1; have HO1 := Lib.hid hO1; clear hS1 hW1 hN1 hx1 hO1
  go_wp2_with fail
  refine (edge_any ⟨#[98]⟩ w1.heap.size 0 4 10 0 10 10 _ ⟨by simp [go_sem], by simp [go_sem], by simp [go_sem], by simp [go_sem]⟩).mono ?_
  rintro e w2 ⟨v2, rfl, ho2, he2⟩
  have hx12 : Ext w1 w2 := ((Ext.refl _).alloc _).trans he2
  have hO2 : OwnT 59 w2 w.heap.size v2 (pairs4 10 0 10 10) := ho2.base_le (by have := HX1.out.size; simp; omega)
  clear he2 ho2
  obtain ⟨B2, k2, hv2⟩ := hO2.form2
  subst hv2
  have HX2 := Lib.hid hx12; have HO2 := Lib.hid hO2; clear hx12 hO2
  have hs1 := HX1.out.size
  have hs2 := HX2.out.size
  go_wp2_with fail
  refine (edge_any ⟨#[99]⟩ w2.heap.size 0 4 10 10 0 10 _ ⟨by simp [go_sem], by simp [go_sem], by simp [go_sem], by simp [go_sem]⟩).mono ?_
  rintro e w3 ⟨v3, rfl, ho3, he3⟩
  have hx23 : Ext w2 w3 := ((Ext.refl _).alloc _).trans he3
  have hO3 : OwnT 59 w3 w.heap.size v3 (pairs4 10 10 0 10) := ho3.base_le (by simp; omega)
  clear he3 ho3
  obtain ⟨B3, k3, hv3⟩ := hO3.form2
  subst hv3
  have HX3 := Lib.hid hx23; have HO3 := Lib.hid hO3; clear hx23 hO3
  have hs3 := HX3.out.size
  go_wp2_with fail
  refine (edge_any ⟨#[100]⟩ w3.heap.size 0 4 0 10 0 0 _ ⟨by simp [go_sem], by simp [go_sem], by simp [go_sem], by simp [go_sem]⟩).mono ?_
  rintro e w4 ⟨v4, rfl, ho4, he4⟩
  have hx34 : Ext w3 w4 := ((Ext.refl _).alloc _).trans he4
  have hO4 : OwnT 59 w4 w.heap.size v4 (pairs4 0 10 0 0) := ho4.base_le (by simp; omega)
  clear he4 ho4
  obtain ⟨B4, k4, hv4⟩ := hO4.form2
  subst hv4
  have HX4 := Lib.hid hx34; have HO4 := Lib.hid hO4; clear hx34 hO4
  have hs4 := HX4.out.size
  have HXA := Lib.hid ((HX2.out.trans HX3.out).trans HX4.out)
  have HS4 := Lib.hid (HS1.out.ext HXA.out)
  have s0 := HS4.out.cell 0
  have s1 := HS4.out.cell 1
  have s2 := HS4.out.cell 2
  have s3 := HS4.out.cell 3
  have s4 := HS4.out.cell 4
  have s5 := HS4.out.cell 5
  have s6 := HS4.out.cell 6
  have e0 := HS4.out.frozen 0
  have e1 := HS4.out.frozen 1
  have e2 := HS4.out.frozen 2
  have e3 := HS4.out.frozen 3
  have e4 := HS4.out.frozen 4
  have e5 := HS4.out.frozen 5
  have e6 := HS4.out.frozen 6
  simp only [List.getElem?_cons_succ, List.getElem?_cons_zero] at s0 s1 s2 s3 s4 s5 s6
  have hsl : w.heap.size < w4.heap.size := HS4.out.lt
  go_wp2_with fail
  refine bodyPost_ret (v := .agg #[.string ⟨#[115, 113, 117, 97, 114, 101]⟩, .slice (some ⟨w4.heap.size, 0, none⟩) 4 4, .int .i64 1, .slice (some ⟨w.heap.size + 1 + 1, 0, none⟩) 1 1, .slice (some ⟨w4.heap.size + 1, 0, none⟩) 4 4, .slice (some ⟨w.heap.size + 1, 0, none⟩) 4 4, .bool false]) (by simp [results, Tryz.results21, go_sem, s0, s1, s2, s3, s4, s5, s6, hsl]) rfl ?_
  refine square_fin ?_ ?_ HS4.out (HX1.out.trans HXA.out) (HW1.out.ext HXA.out) (HN1.out.ext HXA.out) (own_ext HO1.out HXA.out) (own_ext HO2.out (HX3.out.trans HX4.out)) (own_ext HO3.out HX4.out) HO4.out
  · exact kset (kset (kset (kset (kset (kset (kset (Kept.refl _ _) _ _) _ _) _ _) _ _) _ _) _ _) _ _
  · simp [World.setCell]
end Go.Proofs.YtdmamobkgdpefaaGreat
namespace Go.Proofs.YtdmamobkgdpefaaGreat
open Go.RowKit
def wantE : List Edge := [(nmA, pairs4 0 0 16 0), (nmB, pairs4 16 0 16 13), (nmC, pairs4 16 13 0 13), (nmD, pairs4 0 13 0 0)]
theorem sq_graded : gradedE sqE sqC 3 = wantE := by decide +kernel
theorem sq_ok : gradedR sqE sqC 3 = 0 := by decide +kernel
theorem sq_bad : gradedR sqE sqC 101 = 3 := by decide +kernel
theorem sq_areasE : areasE sqE sqC [0, 3] = 0 := by decide +kernel
theorem sq_areas : [0, 3].map (areaAt sqE sqC) = [200, 416] := by decide +kernel
theorem sq_turn : (turnE true 0 sqE).take 1 = [(nmA, pairs4 (-10) 0 0 0)] := by decide +kernel
theorem sq_corner : gS (turnC true 0 4 sqC) 0 = (-2, 0) := by decide +kernel
theorem sq_width : turnW true 4 sqW = [1, 4, 3, 2] := by decide +kernel
theorem sq_notch : gS (turnNs true sqE sqN') 0 = (3, 6000) := by decide +kernel
theorem sq_l1 : (turnE true 0 sqE).length = 4 := by decide +kernel
theorem sq_l2 : (turnC true 0 4 sqC).length = 4 := by decide +kernel
theorem sq_l3 : (turnNs true sqE sqN').length = 1 := by decide +kernel
end Go.Proofs.YtdmamobkgdpefaaGreat
