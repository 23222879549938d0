/- garmenttop.patterns: the example -/
import Derived.Test.YtfegbaokcbjllaaGreatKNrm2
import Derived.Test.YtfegbaokcbjllaaGreatKCut
/- plain: the example of the statements through the layers: the style of a shirt and its cut polygons; the blocks of its piece -/
namespace Go.Proofs.YtfegbaokcbjllaaGreat
open Go.RowKit
def lowN : ByteArray := ⟨#[108, 111, 119]⟩
def rightN : ByteArray := ⟨#[114, 105, 103, 104, 116]⟩
def highN : ByteArray := ⟨#[104, 105, 103, 104]⟩
def leftN : ByteArray := ⟨#[108, 101, 102, 116]⟩
def frontN : ByteArray := ⟨#[102, 114, 111, 110, 116]⟩
def shirtN : ByteArray := ⟨#[115, 104, 105, 114, 116]⟩
def recL (x y : Int) : List Edge := [(lowN, [(0, 0), (x, 0)]), (rightN, [(x, 0), (x, y)]), (highN, [(x, y), (0, y)]), (leftN, [(0, y), (0, 0)])]
def shC : List Spot := [(0, 0), (1, 0), (1, 0), (0, 0)]
def shI : List Int := [0, 1, 0, 0]
def shP : Pc := ⟨recL 10 8, shC, shI, []⟩
def shX : StyX := ⟨shirtN, [⟨#[83]⟩, ⟨#[77]⟩], [0, 2], [⟨frontN, 2, shP⟩], [⟨0, 1, false⟩], [], 0⟩
theorem sh_sty0 : styE shX = 0 := by decide +kernel
theorem sh_g0 : gradedR shP.es shP.cs 0 = 0 := by decide +kernel
theorem sh_e0 : gradedE shP.es shP.cs 0 = recL 10 8 := by decide +kernel
theorem sh_g2 : gradedR shP.es shP.cs 2 = 0 := by decide +kernel
theorem sh_e2 : gradedE shP.es shP.cs 2 = recL 12 8 := by decide +kernel
theorem sh_v0 : verts (recL 10 8) = [(0, 0), (10, 0), (10, 8), (0, 8)] := by decide +kernel
theorem sh_v2 : verts (recL 12 8) = [(0, 0), (12, 0), (12, 8), (0, 8)] := by decide +kernel
theorem sh_o0 : ocheck (recL 10 8) = 0 := by decide +kernel
theorem sh_o2 : ocheck (recL 12 8) = 0 := by decide +kernel
theorem sh_a0 : alE (recL 10 8) shI = 0 := by decide +kernel
theorem sh_a2 : alE (recL 12 8) shI = 0 := by decide +kernel
def cut0 : List Spot := [(0, 0), (11, 0), (11, 8), (0, 8)]
def cut2 : List Spot := [(0, 0), (13, 0), (13, 8), (0, 8)]
theorem sh_p0 : ptsA (recL 10 8) shI = cut0 := by decide +kernel
theorem sh_p2 : ptsA (recL 12 8) shI = cut2 := by decide +kernel
theorem cut_n0 : normP cut0 = cut0 ∧ pcheck cut0 = 0 ∧ 0 ≤ areaTo cut0 4 ∧ cornT cut0 4 ≠ [] := by decide +kernel
theorem cut_n2 : normP cut2 = cut2 ∧ pcheck cut2 = 0 ∧ 0 ≤ areaTo cut2 4 ∧ cornT cut2 4 ≠ [] := by decide +kernel
theorem all4 {P : Nat → Prop} (h0 : P 0) (h1 : P 1) (h2 : P 2) (h3 : P 3) : ∀ i, i < 4 → P i := fun i hi => by
 match i, hi with
 |0, _ => exact h0
 |1, _ => exact h1
 |2, _ => exact h2
 |3, _ => exact h3
theorem all5 {P : Nat → Prop} (h0 : P 0) (h1 : P 1) (h2 : P 2) (h3 : P 3) (h4 : P 4) : ∀ i, i ≤ 4 → P i := fun i hi => by
 match i, hi with
 |0, _ => exact h0
 |1, _ => exact h1
 |2, _ => exact h2
 |3, _ => exact h3
 |4, _ => exact h4
theorem fl_a : FlOk 100 := fl_100
theorem fl_b : FlOk 64 := fl_64
theorem fl_c : FlOk 144 := fl_144
theorem sh_w : WOk shI := ⟨all4 (by decide) (by decide) (by decide) (by decide)⟩
theorem sh_V0 : VOk (verts (recL 10 8)) := by
 rw [sh_v0]
 exact ⟨by decide, by decide, all4 (by unfold inB; decide) (by unfold inB; decide) (by unfold inB; decide) (by unfold inB; decide), all4 (by decide) (by decide) (by decide) (by decide), all4 (P := fun i => FlOk _) fl_a fl_b fl_a fl_b⟩
theorem sh_V2 : VOk (verts (recL 12 8)) := by
 rw [sh_v2]
 exact ⟨by decide, by decide, all4 (by unfold inB; decide) (by unfold inB; decide) (by unfold inB; decide) (by unfold inB; decide), all4 (by decide) (by decide) (by decide) (by decide), all4 (P := fun i => FlOk _) fl_c fl_b fl_c fl_b⟩
def sg4 (s : SegW) : Bool := decide (s.1.1.natAbs ≤ CB ∧ s.1.2.natAbs ≤ CB ∧ s.2.1.1.natAbs ≤ CB ∧ s.2.1.2.natAbs ≤ CB ∧ 0 ≤ s.2.2 ∧ s.2.2 ≤ 500)
theorem sg4_ok {s : SegW} (h : sg4 s = true) : SgOk s := by
 unfold sg4 at h
 obtain ⟨h1, h2, h3, h4, h5, h6⟩ := of_decide_eq_true h
 exact ⟨⟨h1, h2⟩, ⟨h3, h4⟩, h5, h6⟩
theorem sh_A0 : AOk (recL 10 8) shI := by
 have hl : (verts (recL 10 8)).length = 4 := by rw [sh_v0]; rfl
 refine ⟨?_, ?_, ?_⟩
 ·rw [sh_v0]; exact all4 (by unfold inC; decide) (by unfold inC; decide) (by unfold inC; decide) (by unfold inC; decide)
 ·rw [hl]; exact all4 (sg4_ok (by decide +kernel)) (sg4_ok (by decide +kernel)) (sg4_ok (by decide +kernel)) (sg4_ok (by decide +kernel))
 ·rw [hl]; exact all5 (by decide +kernel) (by decide +kernel) (by decide +kernel) (by decide +kernel) (by decide +kernel)
theorem sh_A2 : AOk (recL 12 8) shI := by
 have hl : (verts (recL 12 8)).length = 4 := by rw [sh_v2]; rfl
 refine ⟨?_, ?_, ?_⟩
 ·rw [sh_v2]; exact all4 (by unfold inC; decide) (by unfold inC; decide) (by unfold inC; decide) (by unfold inC; decide)
 ·rw [hl]; exact all4 (sg4_ok (by decide +kernel)) (sg4_ok (by decide +kernel)) (sg4_ok (by decide +kernel)) (sg4_ok (by decide +kernel))
 ·rw [hl]; exact all5 (by decide +kernel) (by decide +kernel) (by decide +kernel) (by decide +kernel) (by decide +kernel)
theorem sh_sz : shX.sz.length ≤ 1000 := by decide
theorem sh_zz : ∀ k, k < shX.sz.length → (gB shX.sz k).size ≤ 9223372036854775807 := by
 intro k hk
 match k, hk with
 |0, _ => decide
 |1, _ => decide
/- the blocks of the outline -/
structure RcB (W : World) (x y : Int) (gE g1 g2 g3 g4 : Nat) : Prop where
 e : Blk 59 W gE [.string lowN, .slice (some ⟨g1, 0, none⟩) 2 2, .string rightN, .slice (some ⟨g2, 0, none⟩) 2 2, .string highN, .slice (some ⟨g3, 0, none⟩) 2 2, .string leftN, .slice (some ⟨g4, 0, none⟩) 2 2]
 l1 : Blk 49 W g1 (scells [(0, 0), (x, 0)])
 l2 : Blk 49 W g2 (scells [(x, 0), (x, y)])
 l3 : Blk 49 W g3 (scells [(x, y), (0, y)])
 l4 : Blk 49 W g4 (scells [(0, y), (0, 0)])
theorem RcB.ext {W W' : World} {x y : Int} {gE g1 g2 g3 g4 : Nat} (h : RcB W x y gE g1 g2 g3 g4) (he : Ext W W') : RcB W' x y gE g1 g2 g3 g4 := ⟨h.e.ext he, h.l1.ext he, h.l2.ext he, h.l3.ext he, h.l4.ext he⟩
/- the blocks of the piece -/
structure ShB (W : World) (gE g1 g2 g3 g4 gC gI : Nat) : Prop where
 r : RcB W 10 8 gE g1 g2 g3 g4
 c : Blk 49 W gC (scells shC)
 i : Blk 3 W gI (icells shI)
theorem ShB.ext {W W' : World} {gE g1 g2 g3 g4 gC gI : Nat} (h : ShB W gE g1 g2 g3 g4 gC gI) (he : Ext W W') : ShB W' gE g1 g2 g3 g4 gC gI := ⟨h.r.ext he, h.c.ext he, h.i.ext he⟩
theorem ShB.kept {K : Nat → Prop} {W W' : World} {gE g1 g2 g3 g4 gC gI : Nat} (ty : TypeId) (h : ShB W gE g1 g2 g3 g4 gC gI) (he : Kept K W W') (t1 : 59 ≠ ty) (t2 : 49 ≠ ty) (t3 : 3 ≠ ty) (hk : ∀ g, K g → ∃ cs, Blk ty W g cs) : ShB W' gE g1 g2 g3 g4 gC gI := by
 have n : ∀ {t : TypeId} {g : Nat} {cs : List Value}, Blk t W g cs → t ≠ ty → ¬ K g := fun {t g cs} hb ht hK => by
  obtain ⟨cs', hb'⟩ := hk g hK
  exact hb.ne hb' ht rfl
 exact ⟨⟨he.blk h.r.e (n h.r.e t1), he.blk h.r.l1 (n h.r.l1 t2), he.blk h.r.l2 (n h.r.l2 t2), he.blk h.r.l3 (n h.r.l3 t2), he.blk h.r.l4 (n h.r.l4 t2)⟩, he.blk h.c (n h.c t2), he.blk h.i (n h.i t3)⟩
theorem spots_blk {t : TypeId} {W : World} {g : Nat} {l : List Spot} (h : Blk t W g (scells l)) : SpotsAt W (some ⟨g, 0, none⟩) l := SpotsAt.of_cells fun j u hu => by rw [Nat.zero_add, h.cell]; exact hu
def shA (gE gC gI : Nat) : PcA := ⟨frontN, some ⟨gE, 0, none⟩, 4, 4, 2, none, 0, 0, some ⟨gC, 0, none⟩, 4, 4, some ⟨gI, 0, none⟩, 4, 4, false⟩
theorem ShB.at {W : World} {gE g1 g2 g3 g4 gC gI : Nat} (h : ShB W gE g1 g2 g3 g4 gC gI) : PcAt W (shA gE gC gI) shP := by
 refine ⟨fun k hk => ?_, rfl, Nat.le_refl _, Nat.le_of_ble_eq_true rfl, spots_blk h.c, rfl, Nat.le_of_ble_eq_true rfl, (OwnI.plain (own_of_int (base := 0) (L := shI) h.i (Nat.zero_le _) (by decide))).2.1, rfl, SpotsAt.nil, rfl, Nat.le_of_ble_eq_true rfl, Nat.le_of_ble_eq_true rfl⟩
 match k, hk with
 |0, _ => exact ⟨gE, 0, some ⟨g1, 0, none⟩, 2, rfl, h.r.e.cell 0, h.r.e.cell 1, spots_blk h.r.l1, Nat.le_refl _, Nat.le_of_ble_eq_true rfl⟩
 |1, _ => exact ⟨gE, 0, some ⟨g2, 0, none⟩, 2, rfl, h.r.e.cell 2, h.r.e.cell 3, spots_blk h.r.l2, Nat.le_refl _, Nat.le_of_ble_eq_true rfl⟩
 |2, _ => exact ⟨gE, 0, some ⟨g3, 0, none⟩, 2, rfl, h.r.e.cell 4, h.r.e.cell 5, spots_blk h.r.l3, Nat.le_refl _, Nat.le_of_ble_eq_true rfl⟩
 |3, _ => exact ⟨gE, 0, some ⟨g4, 0, none⟩, 2, rfl, h.r.e.cell 6, h.r.e.cell 7, spots_blk h.r.l4, Nat.le_refl _, Nat.le_of_ble_eq_true rfl⟩
theorem sh_sty {W : World} {gE g1 g2 g3 g4 gC gI bS bM bP bU : Nat} (h : ShB W gE g1 g2 g3 g4 gC gI) (hS : Blk 9 W bS [.string ⟨#[83]⟩, .string ⟨#[77]⟩]) (hM : Blk 3 W bM (icells [0, 2])) (hP : Blk 40 W bP (shA gE gC gI).cells) (hU : Blk 69 W bU [.int .i64 0, .int .i64 1, .bool false]) :
  StyXAt W ⟨shirtN, some ⟨bS, 0, none⟩, 2, 2, some ⟨bM, 0, none⟩, 2, 2, some ⟨bP, 0, none⟩, 1, 1, some ⟨bU, 0, none⟩, 1, 1, none, 0, 0, none, 0, 0⟩ shX := by
 refine ⟨rfl, fun k hk => ?_, (OwnI.plain (own_of_int (base := 0) (L := [0, 2]) hM (Nat.zero_le _) (by decide))).2.1, fun k hk => ?_, fun k hk => ?_, SeamsAt.nil, rfl, rfl, rfl, rfl, rfl, rfl, Nat.le_of_ble_eq_true rfl, Nat.le_of_ble_eq_true rfl, Nat.le_of_ble_eq_true rfl, Nat.le_of_ble_eq_true rfl, Nat.le_of_ble_eq_true rfl, Nat.le_of_ble_eq_true rfl, Nat.le_refl _, Nat.le_refl _⟩
 ·match k, hk with
  |0, _ => exact ⟨bS, 0, rfl, hS.cell 0⟩
  |1, _ => exact ⟨bS, 0, rfl, hS.cell 1⟩
 ·match k, hk with
  |0, _ => exact ⟨bP, 0, shA gE gC gI, rfl, h.at, ⟨hP.cell 0, hP.cell 1, hP.cell 2, hP.cell 3, hP.cell 4, hP.cell 5, hP.cell 6⟩, rfl, rfl⟩
 ·match k, hk with
  |0, _ => exact ⟨bU, 0, rfl, hU.cell 0, hU.cell 1, hU.cell 2⟩
def IsSd (nm : ByteArray) (cs : List Value) : Value → World → Prop := fun v w => ∃ g, v = .agg #[.string nm, .slice (some ⟨g, 0, none⟩) 2 2] ∧ Blk 49 w g cs
theorem IsSd.kp (nm : ByteArray) (cs : List Value) : Kp (IsSd nm cs) := fun v w w' he h => by obtain ⟨g, h1, h2⟩ := h; exact ⟨g, h1, h2.ext he⟩
def IsRc (x y : Int) : Value → World → Prop := fun v w => ∃ gE g1 g2 g3 g4, v = .slice (some ⟨gE, 0, none⟩) 4 4 ∧ RcB w x y gE g1 g2 g3 g4
theorem IsRc.kp (x y : Int) : Kp (IsRc x y) := fun v w w' he h => by obtain ⟨gE, g1, g2, g3, g4, h1, h2⟩ := h; exact ⟨gE, g1, g2, g3, g4, h1, h2.ext he⟩
def RetRc (w : World) (x y : Int) (e : Ending) (w' : World) : Prop := ∃ gE g1 g2 g3 g4, e = .returned (.slice (some ⟨gE, 0, none⟩) 4 4) ∧ RcB w' x y gE g1 g2 g3 g4 ∧ Ext w w'
set_option maxRecDepth 100000 in
set_option maxHeartbeats 3200000 in
theorem sides_any (x y : Int) (w : World) : Calls Tryz.prog 52 #[.int .i64 x, .int .i64 y] w (RetRc w x y) := by
 go_enter Tryz.func52, Tryz.ntmps52
 go_upto_region 2 with fail
 refine wp_at fun W0 hW0 => ?_
 have HP : Hid (Blk 49 W0 w.heap.size (scells [(0, 0), (x, 0), (x, y), (0, y)])) := by show Blk _ _ _ _; rw [hW0]; exact Blk.new' (by simp)
 have HX0 : Hid (Ext w W0) := by show Ext _ _; rw [hW0]; exact (Ext.refl _).alloc _
 clear hW0
 obtain ⟨gP, hgP⟩ : ∃ g, g = w.heap.size := ⟨_, rfl⟩
 rw [← hgP] at HP ⊢
 clear hgP
 refine region_slots0 (l := 34) (N := 48) (W0 := W0) [15, 16, 17, 18, 19, 20, 21, 22, 23, 24, 25, 26, 27, 28, 29, 30, 31, 32, 33, 34, 35, 36, 37, 38, 39, 40, 41, 42, 43, 44, 45, 46, 47, 4] [Fx (.slice (some ⟨gP, 0, none⟩) 4 4), Fx (.pointer (some ⟨gP, 0, none⟩)), Fx (SV (0, 0)), Fx (.slice (some ⟨gP, 0, none⟩) 4 4), Fx (.pointer (some ⟨gP, 2, none⟩)), Fx (SV (x, 0)), IsRow 49 (scells [(0, 0), (x, 0)]), IsSd lowN (scells [(0, 0), (x, 0)]), Fx (.slice (some ⟨gP, 0, none⟩) 4 4), Fx (.pointer (some ⟨gP, 2, none⟩)), Fx (SV (x, 0)), Fx (.slice (some ⟨gP, 0, none⟩) 4 4), Fx (.pointer (some ⟨gP, 4, none⟩)), Fx (SV (x, y)), IsRow 49 (scells [(x, 0), (x, y)]), IsSd rightN (scells [(x, 0), (x, y)]), Fx (.slice (some ⟨gP, 0, none⟩) 4 4), Fx (.pointer (some ⟨gP, 4, none⟩)), Fx (SV (x, y)), Fx (.slice (some ⟨gP, 0, none⟩) 4 4), Fx (.pointer (some ⟨gP, 6, none⟩)), Fx (SV (0, y)), IsRow 49 (scells [(x, y), (0, y)]), IsSd highN (scells [(x, y), (0, y)]), Fx (.slice (some ⟨gP, 0, none⟩) 4 4), Fx (.pointer (some ⟨gP, 6, none⟩)), Fx (SV (0, y)), Fx (.slice (some ⟨gP, 0, none⟩) 4 4), Fx (.pointer (some ⟨gP, 0, none⟩)), Fx (SV (0, 0)), IsRow 49 (scells [(0, y), (0, 0)]), IsSd leftN (scells [(0, y), (0, 0)]), IsRc x y, IsRc x y] (by kernel_rfl) (by kernel_rfl) (by kernel_rfl) (by kernel_rfl) (Ext.refl _) ?kp (fun i hi => ?_) (fun xs w1 hx hT => ?_)
 case kp => exact ⟨Fx.kp _, Fx.kp _, Fx.kp _, Fx.kp _, Fx.kp _, Fx.kp _, IsRow.kp _ _, IsSd.kp _ _, Fx.kp _, Fx.kp _, Fx.kp _, Fx.kp _, Fx.kp _, Fx.kp _, IsRow.kp _ _, IsSd.kp _ _, Fx.kp _, Fx.kp _, Fx.kp _, Fx.kp _, Fx.kp _, Fx.kp _, IsRow.kp _ _, IsSd.kp _ _, Fx.kp _, Fx.kp _, Fx.kp _, Fx.kp _, Fx.kp _, Fx.kp _, IsRow.kp _ _, IsSd.kp _ _, IsRc.kp _ _, IsRc.kp _ _, trivial⟩
 ·match i, hi with
  |0, _ =>
   refine so rfl ?_
   intro fb wi hx hb hd K hK
   have x5 : fb.eval (.tmp 5) = .slice (some ⟨gP, 0, none⟩) 4 4 := hb 5 rfl
   refine sv rfl (v := .slice (some ⟨gP, 0, none⟩) 4 4) (w' := wi) (fun ρ hρ hc => ?_) (hK _ _ (Ext.refl _) (rfl))
   have r5 := (hρ (.tmp 5)).trans x5
   simp [execOp, go_sem, r5]
  |1, _ =>
   refine so rfl ?_
   intro fb wi hx hb hd K hK
   have x15 : fb.eval (.tmp 15) = .slice (some ⟨gP, 0, none⟩) 4 4 := hd 0 15 rfl (by kernel_rfl)
   refine sv rfl (v := .pointer (some ⟨gP, 0, none⟩)) (w' := wi) (fun ρ hρ hc => ?_) (hK _ _ (Ext.refl _) (rfl))
   have r15 := (hρ (.tmp 15)).trans x15
   simp [execOp, go_sem, hc, r15]
  |2, _ =>
   refine so rfl ?_
   intro fb wi hx hb hd K hK
   have x16 : fb.eval (.tmp 16) = .pointer (some ⟨gP, 0, none⟩) := hd 1 16 rfl (by kernel_rfl)
   have q0 : wi.cell? ⟨gP, 0, none⟩ = some (.int .i64 ((0, 0) : Spot).1) := (HP.out.ext hx).cell 0
   have q1 : wi.cell? ⟨gP, 1, none⟩ = some (.int .i64 ((0, 0) : Spot).2) := (HP.out.ext hx).cell 1
   simp only at q0 q1
   refine sv rfl (v := SV (0, 0)) (w' := wi) (fun ρ hρ hc => ?_) (hK _ _ (Ext.refl _) (rfl))
   have r16 := (hρ (.tmp 16)).trans x16
   simp [execOp, go_sem, r16, q0, q1]
  |3, _ =>
   refine so rfl ?_
   intro fb wi hx hb hd K hK
   have x5 : fb.eval (.tmp 5) = .slice (some ⟨gP, 0, none⟩) 4 4 := hb 5 rfl
   refine sv rfl (v := .slice (some ⟨gP, 0, none⟩) 4 4) (w' := wi) (fun ρ hρ hc => ?_) (hK _ _ (Ext.refl _) (rfl))
   have r5 := (hρ (.tmp 5)).trans x5
   simp [execOp, go_sem, r5]
  |4, _ =>
   refine so rfl ?_
   intro fb wi hx hb hd K hK
   have x18 : fb.eval (.tmp 18) = .slice (some ⟨gP, 0, none⟩) 4 4 := hd 3 18 rfl (by kernel_rfl)
   refine sv rfl (v := .pointer (some ⟨gP, 2, none⟩)) (w' := wi) (fun ρ hρ hc => ?_) (hK _ _ (Ext.refl _) (rfl))
   have r18 := (hρ (.tmp 18)).trans x18
   simp [execOp, go_sem, hc, r18]
  |5, _ =>
   refine so rfl ?_
   intro fb wi hx hb hd K hK
   have x19 : fb.eval (.tmp 19) = .pointer (some ⟨gP, 2, none⟩) := hd 4 19 rfl (by kernel_rfl)
   have q0 : wi.cell? ⟨gP, 2, none⟩ = some (.int .i64 ((x, 0) : Spot).1) := (HP.out.ext hx).cell 2
   have q1 : wi.cell? ⟨gP, 3, none⟩ = some (.int .i64 ((x, 0) : Spot).2) := (HP.out.ext hx).cell 3
   simp only at q0 q1
   refine sv rfl (v := SV (x, 0)) (w' := wi) (fun ρ hρ hc => ?_) (hK _ _ (Ext.refl _) (rfl))
   have r19 := (hρ (.tmp 19)).trans x19
   simp [execOp, go_sem, r19, q0, q1]
  |6, _ =>
   refine so rfl ?_
   intro fb wi hx hb hd K hK
   have x17 : fb.eval (.tmp 17) = SV (0, 0) := hd 2 17 rfl (by kernel_rfl)
   have x20 : fb.eval (.tmp 20) = SV (x, 0) := hd 5 20 rfl (by kernel_rfl)
   refine sv rfl (v := .slice (some ⟨wi.heap.size, 0, none⟩) 2 2) (w' := wi.alloc (.cells (scells [(0, 0), (x, 0)]).toArray 49)) (fun ρ hρ hc => ?_) (hK _ _ ((Ext.refl _).alloc _) (⟨wi.heap.size, rfl, Blk.new' rfl⟩))
   have r17 := (hρ (.tmp 17)).trans x17
   have r20 := (hρ (.tmp 20)).trans x20
   simp [execOp, go_sem, r17, r20, scells]
  |7, _ =>
   refine so rfl ?_
   intro fb wi hx hb hd K hK
   have y21 : IsRow 49 (scells [(0, 0), (x, 0)]) (fb.eval (.tmp 21)) wi := hd 6 21 rfl (by kernel_rfl)
   obtain ⟨g, x21, hbg⟩ := y21
   refine sv rfl (v := .agg #[.string lowN, .slice (some ⟨g, 0, none⟩) 2 2]) (w' := wi) (fun ρ hρ hc => ?_) (hK _ _ (Ext.refl _) (⟨g, rfl, hbg⟩))
   have r21 := (hρ (.tmp 21)).trans x21
   simp [execOp, go_sem, hc, r21, lowN]
  |8, _ =>
   refine so rfl ?_
   intro fb wi hx hb hd K hK
   have x5 : fb.eval (.tmp 5) = .slice (some ⟨gP, 0, none⟩) 4 4 := hb 5 rfl
   refine sv rfl (v := .slice (some ⟨gP, 0, none⟩) 4 4) (w' := wi) (fun ρ hρ hc => ?_) (hK _ _ (Ext.refl _) (rfl))
   have r5 := (hρ (.tmp 5)).trans x5
   simp [execOp, go_sem, r5]
  |9, _ =>
   refine so rfl ?_
   intro fb wi hx hb hd K hK
   have x23 : fb.eval (.tmp 23) = .slice (some ⟨gP, 0, none⟩) 4 4 := hd 8 23 rfl (by kernel_rfl)
   refine sv rfl (v := .pointer (some ⟨gP, 2, none⟩)) (w' := wi) (fun ρ hρ hc => ?_) (hK _ _ (Ext.refl _) (rfl))
   have r23 := (hρ (.tmp 23)).trans x23
   simp [execOp, go_sem, hc, r23]
  |10, _ =>
   refine so rfl ?_
   intro fb wi hx hb hd K hK
   have x24 : fb.eval (.tmp 24) = .pointer (some ⟨gP, 2, none⟩) := hd 9 24 rfl (by kernel_rfl)
   have q0 : wi.cell? ⟨gP, 2, none⟩ = some (.int .i64 ((x, 0) : Spot).1) := (HP.out.ext hx).cell 2
   have q1 : wi.cell? ⟨gP, 3, none⟩ = some (.int .i64 ((x, 0) : Spot).2) := (HP.out.ext hx).cell 3
   simp only at q0 q1
   refine sv rfl (v := SV (x, 0)) (w' := wi) (fun ρ hρ hc => ?_) (hK _ _ (Ext.refl _) (rfl))
   have r24 := (hρ (.tmp 24)).trans x24
   simp [execOp, go_sem, r24, q0, q1]
  |11, _ =>
   refine so rfl ?_
   intro fb wi hx hb hd K hK
   have x5 : fb.eval (.tmp 5) = .slice (some ⟨gP, 0, none⟩) 4 4 := hb 5 rfl
   refine sv rfl (v := .slice (some ⟨gP, 0, none⟩) 4 4) (w' := wi) (fun ρ hρ hc => ?_) (hK _ _ (Ext.refl _) (rfl))
   have r5 := (hρ (.tmp 5)).trans x5
   simp [execOp, go_sem, r5]
  |12, _ =>
   refine so rfl ?_
   intro fb wi hx hb hd K hK
   have x26 : fb.eval (.tmp 26) = .slice (some ⟨gP, 0, none⟩) 4 4 := hd 11 26 rfl (by kernel_rfl)
   refine sv rfl (v := .pointer (some ⟨gP, 4, none⟩)) (w' := wi) (fun ρ hρ hc => ?_) (hK _ _ (Ext.refl _) (rfl))
   have r26 := (hρ (.tmp 26)).trans x26
   simp [execOp, go_sem, hc, r26]
  |13, _ =>
   refine so rfl ?_
   intro fb wi hx hb hd K hK
   have x27 : fb.eval (.tmp 27) = .pointer (some ⟨gP, 4, none⟩) := hd 12 27 rfl (by kernel_rfl)
   have q0 : wi.cell? ⟨gP, 4, none⟩ = some (.int .i64 ((x, y) : Spot).1) := (HP.out.ext hx).cell 4
   have q1 : wi.cell? ⟨gP, 5, none⟩ = some (.int .i64 ((x, y) : Spot).2) := (HP.out.ext hx).cell 5
   simp only at q0 q1
   refine sv rfl (v := SV (x, y)) (w' := wi) (fun ρ hρ hc => ?_) (hK _ _ (Ext.refl _) (rfl))
   have r27 := (hρ (.tmp 27)).trans x27
   simp [execOp, go_sem, r27, q0, q1]
  |14, _ =>
   refine so rfl ?_
   intro fb wi hx hb hd K hK
   have x25 : fb.eval (.tmp 25) = SV (x, 0) := hd 10 25 rfl (by kernel_rfl)
   have x28 : fb.eval (.tmp 28) = SV (x, y) := hd 13 28 rfl (by kernel_rfl)
   refine sv rfl (v := .slice (some ⟨wi.heap.size, 0, none⟩) 2 2) (w' := wi.alloc (.cells (scells [(x, 0), (x, y)]).toArray 49)) (fun ρ hρ hc => ?_) (hK _ _ ((Ext.refl _).alloc _) (⟨wi.heap.size, rfl, Blk.new' rfl⟩))
   have r25 := (hρ (.tmp 25)).trans x25
   have r28 := (hρ (.tmp 28)).trans x28
   simp [execOp, go_sem, r25, r28, scells]
  |15, _ =>
   refine so rfl ?_
   intro fb wi hx hb hd K hK
   have y29 : IsRow 49 (scells [(x, 0), (x, y)]) (fb.eval (.tmp 29)) wi := hd 14 29 rfl (by kernel_rfl)
   obtain ⟨g, x29, hbg⟩ := y29
   refine sv rfl (v := .agg #[.string rightN, .slice (some ⟨g, 0, none⟩) 2 2]) (w' := wi) (fun ρ hρ hc => ?_) (hK _ _ (Ext.refl _) (⟨g, rfl, hbg⟩))
   have r29 := (hρ (.tmp 29)).trans x29
   simp [execOp, go_sem, hc, r29, rightN]
  |16, _ =>
   refine so rfl ?_
   intro fb wi hx hb hd K hK
   have x5 : fb.eval (.tmp 5) = .slice (some ⟨gP, 0, none⟩) 4 4 := hb 5 rfl
   refine sv rfl (v := .slice (some ⟨gP, 0, none⟩) 4 4) (w' := wi) (fun ρ hρ hc => ?_) (hK _ _ (Ext.refl _) (rfl))
   have r5 := (hρ (.tmp 5)).trans x5
   simp [execOp, go_sem, r5]
  |17, _ =>
   refine so rfl ?_
   intro fb wi hx hb hd K hK
   have x31 : fb.eval (.tmp 31) = .slice (some ⟨gP, 0, none⟩) 4 4 := hd 16 31 rfl (by kernel_rfl)
   refine sv rfl (v := .pointer (some ⟨gP, 4, none⟩)) (w' := wi) (fun ρ hρ hc => ?_) (hK _ _ (Ext.refl _) (rfl))
   have r31 := (hρ (.tmp 31)).trans x31
   simp [execOp, go_sem, hc, r31]
  |18, _ =>
   refine so rfl ?_
   intro fb wi hx hb hd K hK
   have x32 : fb.eval (.tmp 32) = .pointer (some ⟨gP, 4, none⟩) := hd 17 32 rfl (by kernel_rfl)
   have q0 : wi.cell? ⟨gP, 4, none⟩ = some (.int .i64 ((x, y) : Spot).1) := (HP.out.ext hx).cell 4
   have q1 : wi.cell? ⟨gP, 5, none⟩ = some (.int .i64 ((x, y) : Spot).2) := (HP.out.ext hx).cell 5
   simp only at q0 q1
   refine sv rfl (v := SV (x, y)) (w' := wi) (fun ρ hρ hc => ?_) (hK _ _ (Ext.refl _) (rfl))
   have r32 := (hρ (.tmp 32)).trans x32
   simp [execOp, go_sem, r32, q0, q1]
  |19, _ =>
   refine so rfl ?_
   intro fb wi hx hb hd K hK
   have x5 : fb.eval (.tmp 5) = .slice (some ⟨gP, 0, none⟩) 4 4 := hb 5 rfl
   refine sv rfl (v := .slice (some ⟨gP, 0, none⟩) 4 4) (w' := wi) (fun ρ hρ hc => ?_) (hK _ _ (Ext.refl _) (rfl))
   have r5 := (hρ (.tmp 5)).trans x5
   simp [execOp, go_sem, r5]
  |20, _ =>
   refine so rfl ?_
   intro fb wi hx hb hd K hK
   have x34 : fb.eval (.tmp 34) = .slice (some ⟨gP, 0, none⟩) 4 4 := hd 19 34 rfl (by kernel_rfl)
   refine sv rfl (v := .pointer (some ⟨gP, 6, none⟩)) (w' := wi) (fun ρ hρ hc => ?_) (hK _ _ (Ext.refl _) (rfl))
   have r34 := (hρ (.tmp 34)).trans x34
   simp [execOp, go_sem, hc, r34]
  |21, _ =>
   refine so rfl ?_
   intro fb wi hx hb hd K hK
   have x35 : fb.eval (.tmp 35) = .pointer (some ⟨gP, 6, none⟩) := hd 20 35 rfl (by kernel_rfl)
   have q0 : wi.cell? ⟨gP, 6, none⟩ = some (.int .i64 ((0, y) : Spot).1) := (HP.out.ext hx).cell 6
   have q1 : wi.cell? ⟨gP, 7, none⟩ = some (.int .i64 ((0, y) : Spot).2) := (HP.out.ext hx).cell 7
   simp only at q0 q1
   refine sv rfl (v := SV (0, y)) (w' := wi) (fun ρ hρ hc => ?_) (hK _ _ (Ext.refl _) (rfl))
   have r35 := (hρ (.tmp 35)).trans x35
   simp [execOp, go_sem, r35, q0, q1]
  |22, _ =>
   refine so rfl ?_
   intro fb wi hx hb hd K hK
   have x33 : fb.eval (.tmp 33) = SV (x, y) := hd 18 33 rfl (by kernel_rfl)
   have x36 : fb.eval (.tmp 36) = SV (0, y) := hd 21 36 rfl (by kernel_rfl)
   refine sv rfl (v := .slice (some ⟨wi.heap.size, 0, none⟩) 2 2) (w' := wi.alloc (.cells (scells [(x, y), (0, y)]).toArray 49)) (fun ρ hρ hc => ?_) (hK _ _ ((Ext.refl _).alloc _) (⟨wi.heap.size, rfl, Blk.new' rfl⟩))
   have r33 := (hρ (.tmp 33)).trans x33
   have r36 := (hρ (.tmp 36)).trans x36
   simp [execOp, go_sem, r33, r36, scells]
  |23, _ =>
   refine so rfl ?_
   intro fb wi hx hb hd K hK
   have y37 : IsRow 49 (scells [(x, y), (0, y)]) (fb.eval (.tmp 37)) wi := hd 22 37 rfl (by kernel_rfl)
   obtain ⟨g, x37, hbg⟩ := y37
   refine sv rfl (v := .agg #[.string highN, .slice (some ⟨g, 0, none⟩) 2 2]) (w' := wi) (fun ρ hρ hc => ?_) (hK _ _ (Ext.refl _) (⟨g, rfl, hbg⟩))
   have r37 := (hρ (.tmp 37)).trans x37
   simp [execOp, go_sem, hc, r37, highN]
  |24, _ =>
   refine so rfl ?_
   intro fb wi hx hb hd K hK
   have x5 : fb.eval (.tmp 5) = .slice (some ⟨gP, 0, none⟩) 4 4 := hb 5 rfl
   refine sv rfl (v := .slice (some ⟨gP, 0, none⟩) 4 4) (w' := wi) (fun ρ hρ hc => ?_) (hK _ _ (Ext.refl _) (rfl))
   have r5 := (hρ (.tmp 5)).trans x5
   simp [execOp, go_sem, r5]
  |25, _ =>
   refine so rfl ?_
   intro fb wi hx hb hd K hK
   have x39 : fb.eval (.tmp 39) = .slice (some ⟨gP, 0, none⟩) 4 4 := hd 24 39 rfl (by kernel_rfl)
   refine sv rfl (v := .pointer (some ⟨gP, 6, none⟩)) (w' := wi) (fun ρ hρ hc => ?_) (hK _ _ (Ext.refl _) (rfl))
   have r39 := (hρ (.tmp 39)).trans x39
   simp [execOp, go_sem, hc, r39]
  |26, _ =>
   refine so rfl ?_
   intro fb wi hx hb hd K hK
   have x40 : fb.eval (.tmp 40) = .pointer (some ⟨gP, 6, none⟩) := hd 25 40 rfl (by kernel_rfl)
   have q0 : wi.cell? ⟨gP, 6, none⟩ = some (.int .i64 ((0, y) : Spot).1) := (HP.out.ext hx).cell 6
   have q1 : wi.cell? ⟨gP, 7, none⟩ = some (.int .i64 ((0, y) : Spot).2) := (HP.out.ext hx).cell 7
   simp only at q0 q1
   refine sv rfl (v := SV (0, y)) (w' := wi) (fun ρ hρ hc => ?_) (hK _ _ (Ext.refl _) (rfl))
   have r40 := (hρ (.tmp 40)).trans x40
   simp [execOp, go_sem, r40, q0, q1]
  |27, _ =>
   refine so rfl ?_
   intro fb wi hx hb hd K hK
   have x5 : fb.eval (.tmp 5) = .slice (some ⟨gP, 0, none⟩) 4 4 := hb 5 rfl
   refine sv rfl (v := .slice (some ⟨gP, 0, none⟩) 4 4) (w' := wi) (fun ρ hρ hc => ?_) (hK _ _ (Ext.refl _) (rfl))
   have r5 := (hρ (.tmp 5)).trans x5
   simp [execOp, go_sem, r5]
  |28, _ =>
   refine so rfl ?_
   intro fb wi hx hb hd K hK
   have x42 : fb.eval (.tmp 42) = .slice (some ⟨gP, 0, none⟩) 4 4 := hd 27 42 rfl (by kernel_rfl)
   refine sv rfl (v := .pointer (some ⟨gP, 0, none⟩)) (w' := wi) (fun ρ hρ hc => ?_) (hK _ _ (Ext.refl _) (rfl))
   have r42 := (hρ (.tmp 42)).trans x42
   simp [execOp, go_sem, hc, r42]
  |29, _ =>
   refine so rfl ?_
   intro fb wi hx hb hd K hK
   have x43 : fb.eval (.tmp 43) = .pointer (some ⟨gP, 0, none⟩) := hd 28 43 rfl (by kernel_rfl)
   have q0 : wi.cell? ⟨gP, 0, none⟩ = some (.int .i64 ((0, 0) : Spot).1) := (HP.out.ext hx).cell 0
   have q1 : wi.cell? ⟨gP, 1, none⟩ = some (.int .i64 ((0, 0) : Spot).2) := (HP.out.ext hx).cell 1
   simp only at q0 q1
   refine sv rfl (v := SV (0, 0)) (w' := wi) (fun ρ hρ hc => ?_) (hK _ _ (Ext.refl _) (rfl))
   have r43 := (hρ (.tmp 43)).trans x43
   simp [execOp, go_sem, r43, q0, q1]
  |30, _ =>
   refine so rfl ?_
   intro fb wi hx hb hd K hK
   have x41 : fb.eval (.tmp 41) = SV (0, y) := hd 26 41 rfl (by kernel_rfl)
   have x44 : fb.eval (.tmp 44) = SV (0, 0) := hd 29 44 rfl (by kernel_rfl)
   refine sv rfl (v := .slice (some ⟨wi.heap.size, 0, none⟩) 2 2) (w' := wi.alloc (.cells (scells [(0, y), (0, 0)]).toArray 49)) (fun ρ hρ hc => ?_) (hK _ _ ((Ext.refl _).alloc _) (⟨wi.heap.size, rfl, Blk.new' rfl⟩))
   have r41 := (hρ (.tmp 41)).trans x41
   have r44 := (hρ (.tmp 44)).trans x44
   simp [execOp, go_sem, r41, r44, scells]
  |31, _ =>
   refine so rfl ?_
   intro fb wi hx hb hd K hK
   have y45 : IsRow 49 (scells [(0, y), (0, 0)]) (fb.eval (.tmp 45)) wi := hd 30 45 rfl (by kernel_rfl)
   obtain ⟨g, x45, hbg⟩ := y45
   refine sv rfl (v := .agg #[.string leftN, .slice (some ⟨g, 0, none⟩) 2 2]) (w' := wi) (fun ρ hρ hc => ?_) (hK _ _ (Ext.refl _) (⟨g, rfl, hbg⟩))
   have r45 := (hρ (.tmp 45)).trans x45
   simp [execOp, go_sem, hc, r45, leftN]
  |32, _ =>
   refine so rfl ?_
   intro fb wi hx hb hd K hK
   have y22 : IsSd lowN (scells [(0, 0), (x, 0)]) (fb.eval (.tmp 22)) wi := hd 7 22 rfl (by kernel_rfl)
   have y30 : IsSd rightN (scells [(x, 0), (x, y)]) (fb.eval (.tmp 30)) wi := hd 15 30 rfl (by kernel_rfl)
   have y38 : IsSd highN (scells [(x, y), (0, y)]) (fb.eval (.tmp 38)) wi := hd 23 38 rfl (by kernel_rfl)
   have y46 : IsSd leftN (scells [(0, y), (0, 0)]) (fb.eval (.tmp 46)) wi := hd 31 46 rfl (by kernel_rfl)
   obtain ⟨g22, x22, h22⟩ := y22
   obtain ⟨g30, x30, h30⟩ := y30
   obtain ⟨g38, x38, h38⟩ := y38
   obtain ⟨g46, x46, h46⟩ := y46
   have hxx : Ext wi (wi.alloc (.cells #[.string lowN, .slice (some ⟨g22, 0, none⟩) 2 2, .string rightN, .slice (some ⟨g30, 0, none⟩) 2 2, .string highN, .slice (some ⟨g38, 0, none⟩) 2 2, .string leftN, .slice (some ⟨g46, 0, none⟩) 2 2] 59)) := (Ext.refl _).alloc _
   refine sv rfl (v := .slice (some ⟨wi.heap.size, 0, none⟩) 4 4) (w' := wi.alloc (.cells #[.string lowN, .slice (some ⟨g22, 0, none⟩) 2 2, .string rightN, .slice (some ⟨g30, 0, none⟩) 2 2, .string highN, .slice (some ⟨g38, 0, none⟩) 2 2, .string leftN, .slice (some ⟨g46, 0, none⟩) 2 2] 59)) (fun ρ hρ hc => ?_) (hK _ _ (hxx) (⟨wi.heap.size, g22, g30, g38, g46, rfl, ⟨Blk.new' rfl, h22.ext hxx, h30.ext hxx, h38.ext hxx, h46.ext hxx⟩⟩))
   have r22 := (hρ (.tmp 22)).trans x22
   have r30 := (hρ (.tmp 30)).trans x30
   have r38 := (hρ (.tmp 38)).trans x38
   have r46 := (hρ (.tmp 46)).trans x46
   simp [execOp, go_sem, r22, r30, r38, r46]
  |33, _ =>
   refine so rfl ?_
   intro fb wi hx hb hd K hK
   have y47 : IsRc x y (fb.eval (.tmp 47)) wi := hd 32 47 rfl (by kernel_rfl)
   refine sv rfl (v := fb.eval (.tmp 47)) (w' := wi) (fun ρ hρ hc => ?_) (hK _ _ (Ext.refl _) y47)
   simp [execOp, go_sem, hρ (.tmp 47)]
  |n + 34, hn => exact absurd hn (by omega)
 ·skip
  simp only [frOf, putAll, List.drop_succ_cons, List.drop_zero, List.setIfInBounds_toArray, List.set_cons_succ, List.set_cons_zero, Nat.zero_add, Nat.reduceAdd]
  have HT4 : IsRc x y (xs 33) w1 := hT 33 (by decide)
  obtain ⟨gE, g1, g2, g3, g4, hv, hrc⟩ := HT4
  rw [hv]
  have HRC := Lib.hid hrc
  have HX9 := Lib.hid (HX0.out.trans hx)
  clear hT hrc hx hv
  go_wp2_with fail
  go_ret
  exact ⟨gE, g1, g2, g3, g4, rfl, HRC.out, HX9.out⟩
def RetSh (w : World) (e : Ending) (w' : World) : Prop := ∃ a, e = .returned (StyA.val a) ∧ StyXAt w' a shX ∧ Ext w w'
set_option maxRecDepth 100000 in
set_option maxHeartbeats 6400000 in
theorem shirt_any (w : World) : Calls Tryz.prog 23 #[] w (RetSh w) := by
 go_enter Tryz.func23, Tryz.ntmps23
 go_wp2_with fail
 refine (sides_any 10 8 _).mono ?_
 rintro e w1 ⟨gE, g1, g2, g3, g4, rfl, hrc, he⟩
 have hR1 : Blk 29 w1 w.heap.size [.string ⟨#[]⟩, .slice none 0 0, .slice none 0 0, .slice none 0 0, .slice none 0 0, .slice none 0 0, .slice none 0 0] := (Blk.new' rfl).ext he
 have hX1 : Ext w w1 := ((Ext.refl _).alloc _).trans he
 have HX1 := Lib.hid hX1; have HR1 := Lib.hid hR1; have HRC := Lib.hid hrc
 clear he hrc hR1 hX1
 go_upto_region 2 with fail
 refine wp_at fun W2 hW2 => ?_
 have HR2 : Hid (Blk 29 W2 w.heap.size [.string ⟨#[]⟩, .slice none 0 0, .slice none 0 0, .slice none 0 0, .slice none 0 0, .slice none 0 0, .slice none 0 0]) := by show Blk _ _ _ _; rw [hW2]; exact HR1.out.ext ((((Ext.refl _).alloc _).alloc _).alloc _)
 have HSH : Hid (ShB W2 gE g1 g2 g3 g4 w1.heap.size (w1.heap.size + 1)) := by
  show ShB _ _ _ _ _ _ _ _
  rw [hW2]
  exact ⟨HRC.out.ext ((((Ext.refl _).alloc _).alloc _).alloc _), (Blk.new' (by simp)).ext (((Ext.refl _).alloc _).alloc _), (Blk.new' (by simp)).ext ((Ext.refl _).alloc _)⟩
 have HPB : Hid (Blk 40 W2 (w1.heap.size + 1 + 1) (shA gE w1.heap.size (w1.heap.size + 1)).cells) := by show Blk _ _ _ _; rw [hW2]; exact Blk.new' (by simp)
 have HX2 : Hid (Ext w W2) := by show Ext _ _; rw [hW2]; exact ((HX1.out.alloc _).alloc _).alloc _
 clear hW2 HR1 HRC HX1
 obtain ⟨gC, hgC⟩ : ∃ g, g = w1.heap.size := ⟨_, rfl⟩
 rw [← hgC] at HSH HPB ⊢
 clear hgC
 obtain ⟨a0, a1, a2, a3, a4, a5, a6⟩ := blk7 HPB.out
 obtain ⟨s0, s1, s2, s3, s4, s5, s6⟩ := blk7 HR2.out
 have f0 := HR2.out.frozen 0; have f1 := HR2.out.frozen 1; have f2 := HR2.out.frozen 2; have f3 := HR2.out.frozen 3; have f4 := HR2.out.frozen 4; have f5 := HR2.out.frozen 5; have f6 := HR2.out.frozen 6
 have hl := HR2.out.lt
 have hl5 := HPB.out.lt
 have hl1 : w.heap.size < W2.heap.size + 1 := by omega
 have hl2 : w.heap.size < W2.heap.size + 1 + 1 := by omega
 have hl3 : w.heap.size < W2.heap.size + 1 + 1 + 1 := by omega
 have hm1 : gC + 1 + 1 < W2.heap.size + 1 := by omega
 have hm2 : gC + 1 + 1 < W2.heap.size + 1 + 1 := by omega
 have hn0 : ¬ w.heap.size = W2.heap.size := by omega
 have hn1 : ¬ w.heap.size = W2.heap.size + 1 := by omega
 have hn2 : ¬ w.heap.size = W2.heap.size + 1 + 1 := by omega
 have hn3 : ¬ w.heap.size = W2.heap.size + 1 + 1 + 1 := by omega
 simp only [shA] at a0 a1 a2 a3 a4 a5 a6
 go_wp2_with fail
 obtain ⟨w5, hw5⟩ : ∃ w5, w5 = ((((((W2.setCell ⟨w.heap.size, 0, none⟩ (.string ⟨#[115, 104, 105, 114, 116]⟩)).setCell ⟨w.heap.size, 1, none⟩ (.slice (some ⟨W2.heap.size, 0, none⟩) 2 2)).setCell ⟨w.heap.size, 2, none⟩ (.slice (some ⟨W2.heap.size + 1, 0, none⟩) 2 2)).setCell ⟨w.heap.size, 3, none⟩ (.slice (some ⟨W2.heap.size + 1 + 1, 0, none⟩) 1 1)).setCell ⟨w.heap.size, 4, none⟩ (.slice (some ⟨W2.heap.size + 1 + 1 + 1, 0, none⟩) 1 1)).setCell ⟨w.heap.size, 5, none⟩ (.slice none 0 0)).setCell ⟨w.heap.size, 6, none⟩ (.slice none 0 0) := ⟨_, rfl⟩
 rw [← hw5]
 have hB5 : Blk 29 w5 w.heap.size [.string ⟨#[115, 104, 105, 114, 116]⟩, .slice (some ⟨W2.heap.size, 0, none⟩) 2 2, .slice (some ⟨W2.heap.size + 1, 0, none⟩) 2 2, .slice (some ⟨W2.heap.size + 1 + 1, 0, none⟩) 1 1, .slice (some ⟨W2.heap.size + 1 + 1 + 1, 0, none⟩) 1 1, .slice none 0 0, .slice none 0 0] := by
  rw [hw5]; exact ((((((HR2.out.set 0 _).set 1 _).set 2 _).set 3 _).set 4 _).set 5 _).set 6 _
 have hk5 : Kept (fun k => k = w.heap.size) W2 w5 := by
  rw [hw5]; exact kset (kset (kset (kset (kset (kset (kset (Kept.refl _ _) _ _) _ _) _ _) _ _) _ _) _ _) _ _
 have hsz : w5.heap.size = W2.heap.size := by rw [hw5]; simp [World.setCell]
 have hSh5 := HSH.out.kept 29 hk5 (by decide) (by decide) (by decide) (fun g e => by subst e; exact ⟨_, HR2.out⟩)
 have hX5 : Ext w w5 := hk5.ext HX2.out (fun k e => by omega)
 clear hw5 s0 s1 s2 s3 s4 s5 s6 a0 a1 a2 a3 a4 a5 a6 f0 f1 f2 f3 f4 f5 f6
 obtain ⟨s0, s1, s2, s3, s4, s5, s6⟩ := blk7 hB5
 rw [← hsz] at s1 s2 s3 s4 hl hl1 hl2 hl3 hn0 hn1 hn2 hn3 ⊢
 clear hB5 hk5 hsz hl5 hm1 hm2
 refine bodyPost_ret (v := StyA.val ⟨shirtN, some ⟨w5.heap.size, 0, none⟩, 2, 2, some ⟨w5.heap.size + 1, 0, none⟩, 2, 2, some ⟨w5.heap.size + 1 + 1, 0, none⟩, 1, 1, some ⟨w5.heap.size + 1 + 1 + 1, 0, none⟩, 1, 1, none, 0, 0, none, 0, 0⟩) (by simp [results, Tryz.results23, go_sem, s0, s1, s2, s3, s4, s5, s6, hl, hl1, hl2, hl3, hn0, hn1, hn2, hn3, StyA.val, shirtN]) rfl ?_
 refine ⟨_, rfl, ?_, (((hX5.alloc _).alloc _).alloc _).alloc _⟩
 exact sh_sty (hSh5.ext ((((Ext.refl _).alloc _).alloc _).alloc _ |>.alloc _)) ((Blk.new' rfl).ext (((Ext.refl _).alloc _).alloc _ |>.alloc _)) ((Blk.new' (by simp)).ext (((Ext.refl _).alloc _).alloc _)) ((Blk.new' (by simp)).ext ((Ext.refl _).alloc _)) (Blk.new' (by simp))
theorem take_same_succ' {l m : List Spot} {k : Nat} (hl : k < l.length) (hm : k < m.length) (h : l.take k = m.take k) (he : l[k] = m[k]) : l.take (k + 1) = m.take (k + 1) := by
 rw [take_succ _ _ hl, take_succ _ _ hm, h, he]
set_option maxHeartbeats 400000 in
theorem topSame_len (A B : Option Addr) (n c d : Nat) (l m : List Spot) (w : World) (ha : SpotsAt w A l) (hb : SpotsAt w B m) (hl : l.length = n) (hm : m.length = n) (hn : n ≤ 9223372036854775807) :
  Calls Tryz.prog 12 #[.slice A n c, .slice B n d] w fun e w' => e = .returned (.bool (decide (l = m))) ∧ Ext w w' := by
 have HL := Lib.hid hl; clear hl
 have HM := Lib.hid hm; clear hm
 have HA := Lib.hid ha; clear ha
 have HB := Lib.hid hb; clear hb
 go_enter Tryz.func12, Tryz.ntmps12
 go_wp2
 go_loopw [5] (fun i wr => ∃ k : Nat, k ≤ n ∧ i = .int .i64 k ∧ l.take k = m.take k ∧ ∃ q, wr = w.drewN q) (fun i _ => n - (intOf i).toNat)
 case atStart => exact ⟨0, Nat.zero_le _, rfl, rfl, 0, rfl⟩
 case round =>
  obtain ⟨k, hk, rfl, ht, q, rfl⟩ := hrel
  have HT := Lib.hid ht; clear ht
  by_cases hlt : k < n
  ·have hkl : k < l.length := by rw [HL.out]; exact hlt
   have hkm : k < m.length := by rw [HM.out]; exact hlt
   obtain ⟨b, off, rfl, hc0, hc1⟩ := HA.out k hkl
   obtain ⟨b', off', rfl, hd0, hd1⟩ := HB.out k hkm
   by_cases heq : l[k] = m[k]
   ·have hq : eqS l[k].1 l[k].2 m[k].1 m[k].2 = true := (eqS_iff _ _).2 heq
    have HE := Lib.hid heq; clear heq
    go_wp2
    go_quiet (fail)
    go_wp2
    go_roundw
    case rel => exact ⟨k + 1, by omega, by go_num, take_same_succ' hkl hkm HT.out HE.out, _, rfl⟩
    case measure => simp [intOf]; omega
   ·have hq : eqS l[k].1 l[k].2 m[k].1 m[k].2 = false := by rw [Bool.eq_false_iff]; intro h; exact heq ((eqS_iff _ _).1 h)
    have HE := Lib.hid heq; clear heq
    go_wp2
    go_quiet (fail)
    go_wp2
    go_ret
    exact ⟨ret_bool (by symm; rw [decide_eq_false_iff_not]; rintro rfl; exact HE.out rfl), Ext.drewN (Ext.drewN (Ext.refl _) _) _⟩
  ·go_wp2
   go_ret
   exact ⟨ret_bool (by
    have h := HT.out
    rw [List.take_of_length_le (by rw [HL.out]; omega), List.take_of_length_le (by rw [HM.out]; omega)] at h
    simp [h]), Ext.drewN (Ext.refl _) _⟩
theorem sh_c0 : CutOk shP 0 := ⟨by rw [sh_e0]; exact sh_o0, sh_w, by rw [sh_e0]; exact sh_V0, by rw [sh_e0]; exact sh_A0⟩
theorem sh_c2 : CutOk shP 2 := ⟨by rw [sh_e2]; exact sh_o2, sh_w, by rw [sh_e2]; exact sh_V2, by rw [sh_e2]; exact sh_A2⟩
theorem sh_cut0 : cutE shP 0 = 0 ∧ ptsA (gradedE shP.es shP.cs 0) shP.ws = cut0 := by
 unfold cutE
 rw [if_neg (by rw [sh_g0]; simp), sh_e0]
 exact ⟨sh_a0, sh_p0⟩
theorem sh_cut2 : cutE shP 2 = 0 ∧ ptsA (gradedE shP.es shP.cs 2) shP.ws = cut2 := by
 unfold cutE
 rw [if_neg (by rw [sh_g2]; simp), sh_e2]
 exact ⟨sh_a2, sh_p2⟩
def RetCt (w : World) (l : List Spot) (e : Ending) (w' : World) : Prop := ∃ A c, e = .returned (.tuple #[.slice A 4 c, .int .i64 0]) ∧ SpotsAt w' A l ∧ 4 ≤ c ∧ Ext w w'
theorem ct_0 (a : StyA) (w : World) (hs : StyXAt w a shX) : Calls Tryz.prog 9 #[a.val, .int .i64 0, .int .i64 0] w (RetCt w cut0) :=
 (cut_any a shX 0 0 0 w hs sh_sz sh_zz sh_sty0 (by decide) rfl (by decide) rfl (by decide) rfl (fun _ => sh_c0)).mono fun e w' h => by
  obtain ⟨v, rfl, h0, h1, he⟩ := h
  have hc : cutE shP 0 = 0 := sh_cut0.1
  have ho := h0 hc
  obtain ⟨A, c, hv, hA, hn, hc'⟩ := OwnS.slice ho
  subst hv
  have hp : ptsA (gradedE shP.es shP.cs 0) shP.ws = cut0 := sh_cut0.2
  have hA' : SpotsAt w' A (ptsA (gradedE shP.es shP.cs 0) shP.ws) := hA
  have hl : (ptsA (gradedE shP.es shP.cs 0) shP.ws).length = 4 := by rw [hp]; rfl
  rw [hp] at hA'
  refine ⟨A, c, ?_, hA', ?_, he⟩
  ·show Ending.returned (.tuple #[.slice A (ptsA (gradedE shP.es shP.cs 0) shP.ws).length c, .int .i64 (cutE shP 0)]) = _
   rw [hc, hl]
  ·have hn' : (ptsA (gradedE shP.es shP.cs 0) shP.ws).length ≤ c := hn
   omega
theorem ct_2 (a : StyA) (w : World) (hs : StyXAt w a shX) : Calls Tryz.prog 9 #[a.val, .int .i64 1, .int .i64 0] w (RetCt w cut2) :=
 (cut_any a shX 1 0 0 w hs sh_sz sh_zz sh_sty0 (by decide) rfl (by decide) rfl (by decide) rfl (fun _ => sh_c2)).mono fun e w' h => by
  obtain ⟨v, rfl, h0, h1, he⟩ := h
  have hc : cutE shP 2 = 0 := sh_cut2.1
  have ho := h0 hc
  obtain ⟨A, c, hv, hA, hn, hc'⟩ := OwnS.slice ho
  subst hv
  have hp : ptsA (gradedE shP.es shP.cs 2) shP.ws = cut2 := sh_cut2.2
  have hA' : SpotsAt w' A (ptsA (gradedE shP.es shP.cs 2) shP.ws) := hA
  have hl : (ptsA (gradedE shP.es shP.cs 2) shP.ws).length = 4 := by rw [hp]; rfl
  rw [hp] at hA'
  refine ⟨A, c, ?_, hA', ?_, he⟩
  ·show Ending.returned (.tuple #[.slice A (ptsA (gradedE shP.es shP.cs 2) shP.ws).length c, .int .i64 (cutE shP 2)]) = _
   rw [hc, hl]
  ·have hn' : (ptsA (gradedE shP.es shP.cs 2) shP.ws).length ≤ c := hn
   omega
theorem nm_l {l : List Spot} (A : Option Addr) (c : Nat) (w : World) (hl : l.length = 4) (hn : normP l = l ∧ pcheck l = 0 ∧ 0 ≤ areaTo l 4 ∧ cornT l 4 ≠ []) (ha : SpotsAt w A l) (hc : 4 ≤ c) :
  Calls Tryz.prog 10 #[.slice A 4 c] w (RetCt w l) :=
 (normal_any A 4 c l w ha hl hc (fun _ => hn.2.2.1) (fun _ => hn.2.2.2)).mono fun e w' h => by
  obtain ⟨v, rfl, h0, h1, he⟩ := h
  have ho := h0 hn.2.1
  rw [hn.1] at ho
  obtain ⟨A', c', hv, hA, hn', hc'⟩ := OwnS.slice ho
  subst hv
  refine ⟨A', c', ?_, hA, ?_, he⟩
  ·rw [hn.2.1, hl]
  ·omega
set_option maxRecDepth 100000 in
set_option maxHeartbeats 6400000 in
theorem patterns_any (w : World) : Calls Tryz.prog 7 #[] w fun e w' => e = .returned (.bool true) ∧ Ext w w' := by
 go_enter Tryz.func7, Tryz.ntmps7
 go_wp2_with fail
 refine (shirt_any _).mono ?_
 rintro e w1 ⟨a, rfl, ha, he⟩
 have HA := Lib.hid ha; have HX1 := Lib.hid he
 clear ha he
 obtain ⟨nm, AS, nS, cS, AM, nM, cM, AP, nP, cP, AU, nU, cU, AK, nK, cK, AO, nO, cO⟩ := a
 have HC0 := Lib.hid (fun W (h : Ext w1 W) => ct_0 _ W (HA.out.ext h))
 have HC2 := Lib.hid (fun W (h : Ext w1 W) => ct_2 _ W (HA.out.ext h))
 simp only [StyA.val] at HC0 HC2 ⊢
 clear HA
 go_upto_region 2 with fail
 refine wp_at fun W0 hW0 => ?_
 have HB0 : Hid (Blk 29 W0 w1.heap.size [.string nm, .slice AS nS cS, .slice AM nM cM, .slice AP nP cP, .slice AU nU cU, .slice AK nK cK, .slice AO nO cO]) := by show Blk _ _ _ _; rw [hW0]; exact Blk.new' rfl
 have HX0 : Hid (Ext w1 W0) := by show Ext _ _; rw [hW0]; exact (Ext.refl _).alloc _
 clear hW0
 obtain ⟨g, hg⟩ : ∃ g, g = w1.heap.size := ⟨_, rfl⟩
 rw [← hg] at HB0 ⊢
 clear hg
 obtain ⟨c0, c1, c2, c3, c4, c5, c6⟩ := blk7 HB0.out
 go_wp2_with fail
 refine (HC0.out _ HX0.out).mono ?_
 rintro e w2 ⟨A2, k2, rfl, h2, hk2, he2⟩
 have HX2 := Lib.hid he2; have H2 := Lib.hid h2
 clear he2 h2 c0 c1 c2 c3 c4 c5 c6
 obtain ⟨c0, c1, c2, c3, c4, c5, c6⟩ := blk7 (HB0.out.ext HX2.out)
 go_wp2_with fail
 refine (HC2.out _ (HX0.out.trans HX2.out)).mono ?_
 rintro e w3 ⟨A3, k3, rfl, h3, hk3, he3⟩
 have HX3 := Lib.hid he3; have H3 := Lib.hid h3
 clear he3 h3 c0 c1 c2 c3 c4 c5 c6
 go_wp2_with fail
 refine (nm_l A2 k2 w3 rfl cut_n0 (H2.out.ext HX3.out) hk2).mono ?_
 rintro e w4 ⟨A4, k4, rfl, h4, hk4, he4⟩
 have HX4 := Lib.hid he4; have H4 := Lib.hid h4
 clear he4 h4
 go_wp2_with fail
 refine (nm_l A3 k3 w4 rfl cut_n2 (H3.out.ext HX4.out) hk3).mono ?_
 rintro e w5 ⟨A5, k5, rfl, h5, hk5, he5⟩
 have HX5 := Lib.hid he5; have H5 := Lib.hid h5
 clear he5 h5
 go_wp2_with fail
 have hb1 : SpotsAt (w5.alloc (.cells #[.int .i64 0, .int .i64 0, .int .i64 11, .int .i64 0, .int .i64 11, .int .i64 8, .int .i64 0, .int .i64 8] 49)) (some ⟨w5.heap.size, 0, none⟩) cut0 := spots_blk (t := 49) (Blk.new' (by simp [cut0, scells]))
 refine (topSame_len A4 (some ⟨w5.heap.size, 0, none⟩) 4 k4 4 cut0 cut0 _ (H4.out.ext (HX5.out.trans ((Ext.refl _).alloc _))) hb1 rfl rfl (by omega)).mono ?_
 rintro e w6 ⟨rfl, he6⟩
 have HX6 : Hid (Ext w5 w6) := ((Ext.refl _).alloc _).trans he6
 have hd : decide (cut0 = cut0) = true := by decide
 rw [hd]
 clear he6 hb1 hd
 go_wp2_with fail
 have hb1 : SpotsAt (w6.alloc (.cells #[.int .i64 0, .int .i64 0, .int .i64 13, .int .i64 0, .int .i64 13, .int .i64 8, .int .i64 0, .int .i64 8] 49)) (some ⟨w6.heap.size, 0, none⟩) cut2 := spots_blk (t := 49) (Blk.new' (by simp [cut2, scells]))
 refine (topSame_len A5 (some ⟨w6.heap.size, 0, none⟩) 4 k5 4 cut2 cut2 _ (H5.out.ext (HX6.out.trans ((Ext.refl _).alloc _))) hb1 rfl rfl (by omega)).mono ?_
 rintro e w7 ⟨rfl, he7⟩
 have HX7 : Hid (Ext w6 w7) := ((Ext.refl _).alloc _).trans he7
 have hd : decide (cut2 = cut2) = true := by decide
 rw [hd]
 clear he7 hb1 hd
 go_wp2_with fail
 go_ret
 exact ⟨rfl, (((((HX1.out.trans HX0.out).trans HX2.out).trans HX3.out).trans HX4.out).trans HX5.out).trans (HX6.out.trans HX7.out)⟩
end Go.Proofs.YtfegbaokcbjllaaGreat
