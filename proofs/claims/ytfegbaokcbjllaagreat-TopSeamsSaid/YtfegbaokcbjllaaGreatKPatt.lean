/- garmenttop.patterns: the example -/
import Derived.Test.YtfegbaokcbjllaaGreatKNrm2
import Derived.Test.YtfegbaokcbjllaaGreatKStC
import Derived.Test.YtfegbaokcbjllaaGreatKPut7
/- plain: the example of the statements through the layers: the style of a shirt and its cut polygons; the blocks of its piece -/
namespace Go.Proofs.YtfegbaokcbjllaaGreat
open Go.RowKit
def lowN : ByteArray := ⟨#[108, 111, 119]⟩
def rightN : ByteArray := ⟨#[114, 105, 103, 104, 116]⟩
def highN : ByteArray := ⟨#[104, 105, 103, 104]⟩
def leftN : ByteArray := ⟨#[108, 101, 102, 116]⟩
def frontN : ByteArray := ⟨#[102, 114, 111, 110, 116]⟩
def shirtN : ByteArray := ⟨#[115, 104, 105, 114, 116]⟩
def recL (x y : Int) : List Edge := [(lowN, [(0, 0), (x, 0)]), (rightN, [(x, 0), (x, y)]), (highN, [(x, y), (0, y)]), (leftN, [(0, y), (0, 0)])]
def shC : List Spot := [(0, 0), (1, 0), (1, 0), (0, 0)]
def shI : List Int := [0, 1, 0, 0]
def shP : Pc := ⟨recL 10 8, shC, shI, []⟩
def shX : StyX := ⟨shirtN, [⟨#[83]⟩, ⟨#[77]⟩], [0, 2], [⟨frontN, 2, shP⟩], [⟨0, 1, false⟩], [], 0⟩
theorem sh_sty0 : styE shX = 0 := by decide +kernel
theorem sh_g0 : gradedR shP.es shP.cs 0 = 0 := by decide +kernel
theorem sh_e0 : gradedE shP.es shP.cs 0 = recL 10 8 := by decide +kernel
theorem sh_g2 : gradedR shP.es shP.cs 2 = 0 := by decide +kernel
theorem sh_e2 : gradedE shP.es shP.cs 2 = recL 12 8 := by decide +kernel
theorem sh_v0 : verts (recL 10 8) = [(0, 0), (10, 0), (10, 8), (0, 8)] := by decide +kernel
theorem sh_v2 : verts (recL 12 8) = [(0, 0), (12, 0), (12, 8), (0, 8)] := by decide +kernel
theorem sh_o0 : ocheck (recL 10 8) = 0 := by decide +kernel
theorem sh_o2 : ocheck (recL 12 8) = 0 := by decide +kernel
theorem sh_a0 : alE (recL 10 8) shI = 0 := by decide +kernel
theorem sh_a2 : alE (recL 12 8) shI = 0 := by decide +kernel
def cut0 : List Spot := [(0, 0), (11, 0), (11, 8), (0, 8)]
def cut2 : List Spot := [(0, 0), (13, 0), (13, 8), (0, 8)]
theorem sh_p0 : ptsA (recL 10 8) shI = cut0 := by decide +kernel
theorem sh_p2 : ptsA (recL 12 8) shI = cut2 := by decide +kernel
theorem cut_n0 : normP cut0 = cut0 ∧ pcheck cut0 = 0 ∧ 0 ≤ areaTo cut0 4 ∧ cornT cut0 4 ≠ [] := by decide +kernel
theorem cut_n2 : normP cut2 = cut2 ∧ pcheck cut2 = 0 ∧ 0 ≤ areaTo cut2 4 ∧ cornT cut2 4 ≠ [] := by decide +kernel
theorem all4 {P : Nat → Prop} (h0 : P 0) (h1 : P 1) (h2 : P 2) (h3 : P 3) : ∀ i, i < 4 → P i := fun i hi => by
 match i, hi with
 |0, _ => exact h0
 |1, _ => exact h1
 |2, _ => exact h2
 |3, _ => exact h3
theorem all5 {P : Nat → Prop} (h0 : P 0) (h1 : P 1) (h2 : P 2) (h3 : P 3) (h4 : P 4) : ∀ i, i ≤ 4 → P i := fun i hi => by
 match i, hi with
 |0, _ => exact h0
 |1, _ => exact h1
 |2, _ => exact h2
 |3, _ => exact h3
 |4, _ => exact h4
theorem fl_a : FlOk 100 := fl_100
theorem fl_b : FlOk 64 := fl_64
theorem fl_c : FlOk 144 := fl_144
theorem sh_w : WOk shI := ⟨all4 (by decide) (by decide) (by decide) (by decide)⟩
theorem sh_V0 : VOk (verts (recL 10 8)) := by
 rw [sh_v0]
 exact ⟨by decide, by decide, all4 (by unfold inB; decide) (by unfold inB; decide) (by unfold inB; decide) (by unfold inB; decide), all4 (by decide) (by decide) (by decide) (by decide), all4 (P := fun i => FlOk _) fl_a fl_b fl_a fl_b⟩
theorem sh_V2 : VOk (verts (recL 12 8)) := by
 rw [sh_v2]
 exact ⟨by decide, by decide, all4 (by unfold inB; decide) (by unfold inB; decide) (by unfold inB; decide) (by unfold inB; decide), all4 (by decide) (by decide) (by decide) (by decide), all4 (P := fun i => FlOk _) fl_c fl_b fl_c fl_b⟩
def sg4 (s : SegW) : Bool := decide (s.1.1.natAbs ≤ CB ∧ s.1.2.natAbs ≤ CB ∧ s.2.1.1.natAbs ≤ CB ∧ s.2.1.2.natAbs ≤ CB ∧ 0 ≤ s.2.2 ∧ s.2.2 ≤ 500)
theorem sg4_ok {s : SegW} (h : sg4 s = true) : SgOk s := by
 unfold sg4 at h
 obtain ⟨h1, h2, h3, h4, h5, h6⟩ := of_decide_eq_true h
 exact ⟨⟨h1, h2⟩, ⟨h3, h4⟩, h5, h6⟩
theorem sh_A0 : AOk (recL 10 8) shI := by
 have hl : (verts (recL 10 8)).length = 4 := by rw [sh_v0]; rfl
 refine ⟨?_, ?_, ?_⟩
 ·rw [sh_v0]; exact all4 (by unfold inC; decide) (by unfold inC; decide) (by unfold inC; decide) (by unfold inC; decide)
 ·rw [hl]; exact all4 (sg4_ok (by decide +kernel)) (sg4_ok (by decide +kernel)) (sg4_ok (by decide +kernel)) (sg4_ok (by decide +kernel))
 ·rw [hl]; exact all5 (by decide +kernel) (by decide +kernel) (by decide +kernel) (by decide +kernel) (by decide +kernel)
theorem sh_A2 : AOk (recL 12 8) shI := by
 have hl : (verts (recL 12 8)).length = 4 := by rw [sh_v2]; rfl
 refine ⟨?_, ?_, ?_⟩
 ·rw [sh_v2]; exact all4 (by unfold inC; decide) (by unfold inC; decide) (by unfold inC; decide) (by unfold inC; decide)
 ·rw [hl]; exact all4 (sg4_ok (by decide +kernel)) (sg4_ok (by decide +kernel)) (sg4_ok (by decide +kernel)) (sg4_ok (by decide +kernel))
 ·rw [hl]; exact all5 (by decide +kernel) (by decide +kernel) (by decide +kernel) (by decide +kernel) (by decide +kernel)
theorem sh_sz : shX.sz.length ≤ 1000 := by decide
theorem sh_zz : ∀ k, k < shX.sz.length → (gB shX.sz k).size ≤ 1000 := by
 intro k hk
 match k, hk with
 |0, _ => decide
 |1, _ => decide
/- the blocks of the outline -/
structure RcB (W : World) (x y : Int) (gE g1 g2 g3 g4 : Nat) : Prop where
 e : Blk 59 W gE [.string lowN, .slice (some ⟨g1, 0, none⟩) 2 2, .string rightN, .slice (some ⟨g2, 0, none⟩) 2 2, .string highN, .slice (some ⟨g3, 0, none⟩) 2 2, .string leftN, .slice (some ⟨g4, 0, none⟩) 2 2]
 l1 : Blk 49 W g1 (scells [(0, 0), (x, 0)])
 l2 : Blk 49 W g2 (scells [(x, 0), (x, y)])
 l3 : Blk 49 W g3 (scells [(x, y), (0, y)])
 l4 : Blk 49 W g4 (scells [(0, y), (0, 0)])
theorem RcB.ext {W W' : World} {x y : Int} {gE g1 g2 g3 g4 : Nat} (h : RcB W x y gE g1 g2 g3 g4) (he : Ext W W') : RcB W' x y gE g1 g2 g3 g4 := ⟨h.e.ext he, h.l1.ext he, h.l2.ext he, h.l3.ext he, h.l4.ext he⟩
/- the blocks of the piece -/
structure ShB (W : World) (gE g1 g2 g3 g4 gC gI : Nat) : Prop where
 r : RcB W 10 8 gE g1 g2 g3 g4
 c : Blk 49 W gC (scells shC)
 i : Blk 3 W gI (icells shI)
theorem ShB.ext {W W' : World} {gE g1 g2 g3 g4 gC gI : Nat} (h : ShB W gE g1 g2 g3 g4 gC gI) (he : Ext W W') : ShB W' gE g1 g2 g3 g4 gC gI := ⟨h.r.ext he, h.c.ext he, h.i.ext he⟩
theorem ShB.kept {K : Nat → Prop} {W W' : World} {gE g1 g2 g3 g4 gC gI : Nat} (ty : TypeId) (h : ShB W gE g1 g2 g3 g4 gC gI) (he : Kept K W W') (t1 : 59 ≠ ty) (t2 : 49 ≠ ty) (t3 : 3 ≠ ty) (hk : ∀ g, K g → ∃ cs, Blk ty W g cs) : ShB W' gE g1 g2 g3 g4 gC gI := by
 have n : ∀ {t : TypeId} {g : Nat} {cs : List Value}, Blk t W g cs → t ≠ ty → ¬ K g := fun {t g cs} hb ht hK => by
  obtain ⟨cs', hb'⟩ := hk g hK
  exact hb.ne hb' ht rfl
 exact ⟨⟨he.blk h.r.e (n h.r.e t1), he.blk h.r.l1 (n h.r.l1 t2), he.blk h.r.l2 (n h.r.l2 t2), he.blk h.r.l3 (n h.r.l3 t2), he.blk h.r.l4 (n h.r.l4 t2)⟩, he.blk h.c (n h.c t2), he.blk h.i (n h.i t3)⟩
theorem spots_blk {t : TypeId} {W : World} {g : Nat} {l : List Spot} (h : Blk t W g (scells l)) : SpotsAt W (some ⟨g, 0, none⟩) l := SpotsAt.of_cells fun j u hu => by rw [Nat.zero_add, h.cell]; exact hu
def shA (gE gC gI : Nat) : PcA := ⟨frontN, some ⟨gE, 0, none⟩, 4, 4, 2, none, 0, 0, some ⟨gC, 0, none⟩, 4, 4, some ⟨gI, 0, none⟩, 4, 4, false⟩
theorem ShB.at {W : World} {gE g1 g2 g3 g4 gC gI : Nat} (h : ShB W gE g1 g2 g3 g4 gC gI) : PcAt W (shA gE gC gI) shP := by
 refine ⟨fun k hk => ?_, rfl, Nat.le_refl _, Nat.le_of_ble_eq_true rfl, spots_blk h.c, rfl, Nat.le_of_ble_eq_true rfl, (OwnI.plain (own_of_int (base := 0) (L := shI) h.i (Nat.zero_le _) (by decide))).2.1, rfl, SpotsAt.nil, rfl, Nat.le_of_ble_eq_true rfl, Nat.le_of_ble_eq_true rfl⟩
 match k, hk with
 |0, _ => exact ⟨gE, 0, some ⟨g1, 0, none⟩, 2, rfl, h.r.e.cell 0, h.r.e.cell 1, spots_blk h.r.l1, Nat.le_refl _, Nat.le_of_ble_eq_true rfl⟩
 |1, _ => exact ⟨gE, 0, some ⟨g2, 0, none⟩, 2, rfl, h.r.e.cell 2, h.r.e.cell 3, spots_blk h.r.l2, Nat.le_refl _, Nat.le_of_ble_eq_true rfl⟩
 |2, _ => exact ⟨gE, 0, some ⟨g3, 0, none⟩, 2, rfl, h.r.e.cell 4, h.r.e.cell 5, spots_blk h.r.l3, Nat.le_refl _, Nat.le_of_ble_eq_true rfl⟩
 |3, _ => exact ⟨gE, 0, some ⟨g4, 0, none⟩, 2, rfl, h.r.e.cell 6, h.r.e.cell 7, spots_blk h.r.l4, Nat.le_refl _, Nat.le_of_ble_eq_true rfl⟩
theorem sh_sty {W : World} {gE g1 g2 g3 g4 gC gI bS bM bP bU : Nat} (h : ShB W gE g1 g2 g3 g4 gC gI) (hS : Blk 9 W bS [.string ⟨#[83]⟩, .string ⟨#[77]⟩]) (hM : Blk 3 W bM (icells [0, 2])) (hP : Blk 40 W bP (shA gE gC gI).cells) (hU : Blk 69 W bU [.int .i64 0, .int .i64 1, .bool false]) :
  StyXAt W ⟨shirtN, some ⟨bS, 0, none⟩, 2, 2, some ⟨bM, 0, none⟩, 2, 2, some ⟨bP, 0, none⟩, 1, 1, some ⟨bU, 0, none⟩, 1, 1, none, 0, 0, none, 0, 0⟩ shX := by
 refine ⟨rfl, fun k hk => ?_, (OwnI.plain (own_of_int (base := 0) (L := [0, 2]) hM (Nat.zero_le _) (by decide))).2.1, fun k hk => ?_, fun k hk => ?_, SeamsAt.nil, rfl, rfl, rfl, rfl, rfl, rfl, Nat.le_of_ble_eq_true rfl, Nat.le_of_ble_eq_true rfl, Nat.le_of_ble_eq_true rfl, Nat.le_of_ble_eq_true rfl, Nat.le_of_ble_eq_true rfl, Nat.le_of_ble_eq_true rfl, Nat.le_refl _, Nat.le_refl _⟩
 ·match k, hk with
  |0, _ => exact ⟨bS, 0, rfl, hS.cell 0⟩
  |1, _ => exact ⟨bS, 0, rfl, hS.cell 1⟩
 ·match k, hk with
  |0, _ => exact ⟨bP, 0, shA gE gC gI, rfl, h.at, ⟨hP.cell 0, hP.cell 1, hP.cell 2, hP.cell 3, hP.cell 4, hP.cell 5, hP.cell 6⟩, rfl, rfl⟩
 ·match k, hk with
  |0, _ => exact ⟨bU, 0, rfl, hU.cell 0, hU.cell 1, hU.cell 2⟩
def IsSd (nm : ByteArray) (cs : List Value) : Value → World → Prop := fun v w => ∃ g, v = .agg #[.string nm, .slice (some ⟨g, 0, none⟩) 2 2] ∧ Blk 49 w g cs
theorem IsSd.kp (nm : ByteArray) (cs : List Value) : Kp (IsSd nm cs) := fun v w w' he h => by obtain ⟨g, h1, h2⟩ := h; exact ⟨g, h1, h2.ext he⟩
def IsRc (x y : Int) : Value → World → Prop := fun v w => ∃ gE g1 g2 g3 g4, v = .slice (some ⟨gE, 0, none⟩) 4 4 ∧ RcB w x y gE g1 g2 g3 g4
theorem IsRc.kp (x y : Int) : Kp (IsRc x y) := fun v w w' he h => by obtain ⟨gE, g1, g2, g3, g4, h1, h2⟩ := h; exact ⟨gE, g1, g2, g3, g4, h1, h2.ext he⟩
def RetRc (w : World) (x y : Int) (e : Ending) (w' : World) : Prop := ∃ gE g1 g2 g3 g4, e = .returned (.slice (some ⟨gE, 0, none⟩) 4 4) ∧ RcB w' x y gE g1 g2 g3 g4 ∧ Ext w w'
set_option maxRecDepth 100000 in
set_option maxHeartbeats 3200000 in
theorem sides_any (x y : Int) (w : World) : Calls Tryz.prog 52 #[.int .i64 x, .int .i64 y] w (RetRc w x y) := by
 go_enter Tryz.func52, Tryz.ntmps52
 go_upto_region 2 with fail
 refine wp_at fun W0 hW0 => ?_
 have HP : Hid (Blk 49 W0 w.heap.size (scells [(0, 0), (x, 0), (x, y), (0, y)])) := by show Blk _ _ _ _; rw [hW0]; exact Blk.new' (by simp)
 have HX0 : Hid (Ext w W0) := by show Ext _ _; rw [hW0]; exact (Ext.refl _).alloc _
 clear hW0
 obtain ⟨gP, hgP⟩ : ∃ g, g = w.heap.size := ⟨_, rfl⟩
 rw [← hgP] at HP ⊢
 clear hgP
 refine region_slots0 (l := 34) (N := 48) (W0 := W0) [15, 16, 17, 18, 19, 20, 21, 22, 23, 24, 25, 26, 27, 28, 29, 30, 31, 32, 33, 34, 35, 36, 37, 38, 39, 40, 41, 42, 43, 44, 45, 46, 47, 4] [Fx (.slice (some ⟨gP, 0, none⟩) 4 4), Fx (.pointer (some ⟨gP, 0, none⟩)), Fx (SV (0, 0)), Fx (.slice (some ⟨gP, 0, none⟩) 4 4), Fx (.pointer (some ⟨gP, 2, none⟩)), Fx (SV (x, 0)), IsRow 49 (scells [(0, 0), (x, 0)]), IsSd lowN (scells [(0, 0), (x, 0)]), Fx (.slice (some ⟨gP, 0, none⟩) 4 4), Fx (.pointer (some ⟨gP, 2, none⟩)), Fx (SV (x, 0)), Fx (.slice (some ⟨gP, 0, none⟩) 4 4), Fx (.pointer (some ⟨gP, 4, none⟩)), Fx (SV (x, y)), IsRow 49 (scells [(x, 0), (x, y)]), IsSd rightN (scells [(x, 0), (x, y)]), Fx (.slice (some ⟨gP, 0, none⟩) 4 4), Fx (.pointer (some ⟨gP, 4, none⟩)), Fx (SV (x, y)), Fx (.slice (some ⟨gP, 0, none⟩) 4 4), Fx (.pointer (some ⟨gP, 6, none⟩)), Fx (SV (0, y)), IsRow 49 (scells [(x, y), (0, y)]), IsSd highN (scells [(x, y), (0, y)]), Fx (.slice (some ⟨gP, 0, none⟩) 4 4), Fx (.pointer (some ⟨gP, 6, none⟩)), Fx (SV (0, y)), Fx (.slice (some ⟨gP, 0, none⟩) 4 4), Fx (.pointer (some ⟨gP, 0, none⟩)), Fx (SV (0, 0)), IsRow 49 (scells [(0, y), (0, 0)]), IsSd leftN (scells [(0, y), (0, 0)]), IsRc x y, IsRc x y] (by kernel_rfl) (by kernel_rfl) (by kernel_rfl) (by kernel_rfl) (Ext.refl _) ?kp (fun i hi => ?_) (fun xs w1 hx hT => ?_)
 case kp => exact ⟨Fx.kp _, Fx.kp _, Fx.kp _, Fx.kp _, Fx.kp _, Fx.kp _, IsRow.kp _ _, IsSd.kp _ _, Fx.kp _, Fx.kp _, Fx.kp _, Fx.kp _, Fx.kp _, Fx.kp _, IsRow.kp _ _, IsSd.kp _ _, Fx.kp _, Fx.kp _, Fx.kp _, Fx.kp _, Fx.kp _, Fx.kp _, IsRow.kp _ _, IsSd.kp _ _, Fx.kp _, Fx.kp _, Fx.kp _, Fx.kp _, Fx.kp _, Fx.kp _, IsRow.kp _ _, IsSd.kp _ _, IsRc.kp _ _, IsRc.kp _ _, trivial⟩
 ·match i, hi with
  |0, _ =>
   refine so rfl ?_
   intro fb wi hx hb hd K hK
   have x5 : fb.eval (.tmp 5) = .slice (some ⟨gP, 0, none⟩) 4 4 := hb 5 (by kernel_rfl)
   refine step_valR (wanted_all rfl) (v := .slice (some ⟨gP, 0, none⟩) 4 4) (w' := wi) (fun ρ hρ hc => ?_) (hK _ _ (Ext.refl _) (rfl))
   have r5 := (hρ (.tmp 5)).trans x5
   simp [execOp, go_sem, r5]
  |1, _ =>
   refine so rfl ?_
   intro fb wi hx hb hd K hK
   have x15 : fb.eval (.tmp 15) = .slice (some ⟨gP, 0, none⟩) 4 4 := hd 0 15 rfl (by kernel_rfl)
   refine step_valR (wanted_all rfl) (v := .pointer (some ⟨gP, 0, none⟩)) (w' := wi) (fun ρ hρ hc => ?_) (hK _ _ (Ext.refl _) (rfl))
   have r15 := (hρ (.tmp 15)).trans x15
   simp [execOp, go_sem, hc, r15]
  |2, _ =>
   refine so rfl ?_
   intro fb wi hx hb hd K hK
   have x16 : fb.eval (.tmp 16) = .pointer (some ⟨gP, 0, none⟩) := hd 1 16 rfl (by kernel_rfl)
   have q0 : wi.cell? ⟨gP, 0, none⟩ = some (.int .i64 ((0, 0) : Spot).1) := (HP.out.ext hx).cell 0
   have q1 : wi.cell? ⟨gP, 1, none⟩ = some (.int .i64 ((0, 0) : Spot).2) := (HP.out.ext hx).cell 1
   simp only at q0 q1
   refine step_valR (wanted_all rfl) (v := SV (0, 0)) (w' := wi) (fun ρ hρ hc => ?_) (hK _ _ (Ext.refl _) (rfl))
   have r16 := (hρ (.tmp 16)).trans x16
   simp [execOp, go_sem, r16, q0, q1]
  |3, _ =>
   refine so rfl ?_
   intro fb wi hx hb hd K hK
   have x5 : fb.eval (.tmp 5) = .slice (some ⟨gP, 0, none⟩) 4 4 := hb 5 (by kernel_rfl)
   refine step_valR (wanted_all rfl) (v := .slice (some ⟨gP, 0, none⟩) 4 4) (w' := wi) (fun ρ hρ hc => ?_) (hK _ _ (Ext.refl _) (rfl))
   have r5 := (hρ (.tmp 5)).trans x5
   simp [execOp, go_sem, r5]
  |4, _ =>
   refine so rfl ?_
   intro fb wi hx hb hd K hK
   have x18 : fb.eval (.tmp 18) = .slice (some ⟨gP, 0, none⟩) 4 4 := hd 3 18 rfl (by kernel_rfl)
   refine step_valR (wanted_all rfl) (v := .pointer (some ⟨gP, 2, none⟩)) (w' := wi) (fun ρ hρ hc => ?_) (hK _ _ (Ext.refl _) (rfl))
   have r18 := (hρ (.tmp 18)).trans x18
   simp [execOp, go_sem, hc, r18]
  |5, _ =>
   refine so rfl ?_
   intro fb wi hx hb hd K hK
   have x19 : fb.eval (.tmp 19) = .pointer (some ⟨gP, 2, none⟩) := hd 4 19 rfl (by kernel_rfl)
   have q0 : wi.cell? ⟨gP, 2, none⟩ = some (.int .i64 ((x, 0) : Spot).1) := (HP.out.ext hx).cell 2
   have q1 : wi.cell? ⟨gP, 3, none⟩ = some (.int .i64 ((x, 0) : Spot).2) := (HP.out.ext hx).cell 3
   simp only at q0 q1
   refine step_valR (wanted_all rfl) (v := SV (x, 0)) (w' := wi) (fun ρ hρ hc => ?_) (hK _ _ (Ext.refl _) (rfl))
   have r19 := (hρ (.tmp 19)).trans x19
   simp [execOp, go_sem, r19, q0, q1]
  |6, _ =>
   refine so rfl ?_
   intro fb wi hx hb hd K hK
   have x17 : fb.eval (.tmp 17) = SV (0, 0) := hd 2 17 rfl (by kernel_rfl)
   have x20 : fb.eval (.tmp 20) = SV (x, 0) := hd 5 20 rfl (by kernel_rfl)
   refine step_valR (wanted_all rfl) (v := .slice (some ⟨wi.heap.size, 0, none⟩) 2 2) (w' := wi.alloc (.cells (scells [(0, 0), (x, 0)]).toArray 49)) (fun ρ hρ hc => ?_) (hK _ _ ((Ext.refl _).alloc _) (⟨wi.heap.size, rfl, Blk.new' rfl⟩))
   have r17 := (hρ (.tmp 17)).trans x17
   have r20 := (hρ (.tmp 20)).trans x20
   simp [execOp, go_sem, r17, r20, scells]
  |7, _ =>
   refine so rfl ?_
   intro fb wi hx hb hd K hK
   have y21 : IsRow 49 (scells [(0, 0), (x, 0)]) (fb.eval (.tmp 21)) wi := hd 6 21 rfl (by kernel_rfl)
   obtain ⟨g, x21, hbg⟩ := y21
   refine step_valR (wanted_all rfl) (v := .agg #[.string lowN, .slice (some ⟨g, 0, none⟩) 2 2]) (w' := wi) (fun ρ hρ hc => ?_) (hK _ _ (Ext.refl _) (⟨g, rfl, hbg⟩))
   have r21 := (hρ (.tmp 21)).trans x21
   simp [execOp, go_sem, hc, r21, lowN]
  |8, _ =>
   refine so rfl ?_
   intro fb wi hx hb hd K hK
   have x5 : fb.eval (.tmp 5) = .slice (some ⟨gP, 0, none⟩) 4 4 := hb 5 (by kernel_rfl)
   refine step_valR (wanted_all rfl) (v := .slice (some ⟨gP, 0, none⟩) 4 4) (w' := wi) (fun ρ hρ hc => ?_) (hK _ _ (Ext.refl _) (rfl))
   have r5 := (hρ (.tmp 5)).trans x5
   simp [execOp, go_sem, r5]
  |9, _ =>
   refine so rfl ?_
   intro fb wi hx hb hd K hK
   have x23 : fb.eval (.tmp 23) = .slice (some ⟨gP, 0, none⟩) 4 4 := hd 8 23 rfl (by kernel_rfl)
   refine step_valR (wanted_all rfl) (v := .pointer (some ⟨gP, 2, none⟩)) (w' := wi) (fun ρ hρ hc => ?_) (hK _ _ (Ext.refl _) (rfl))
   have r23 := (hρ (.tmp 23)).trans x23
   simp [execOp, go_sem, hc, r23]
  |10, _ =>
   refine so rfl ?_
   intro fb wi hx hb hd K hK
   have x24 : fb.eval (.tmp 24) = .pointer (some ⟨gP, 2, none⟩) := hd 9 24 rfl (by kernel_rfl)
   have q0 : wi.cell? ⟨gP, 2, none⟩ = some (.int .i64 ((x, 0) : Spot).1) := (HP.out.ext hx).cell 2
   have q1 : wi.cell? ⟨gP, 3, none⟩ = some (.int .i64 ((x, 0) : Spot).2) := (HP.out.ext hx).cell 3
   simp only at q0 q1
   refine step_valR (wanted_all rfl) (v := SV (x, 0)) (w' := wi) (fun ρ hρ hc => ?_) (hK _ _ (Ext.refl _) (rfl))
   have r24 := (hρ (.tmp 24)).trans x24
   simp [execOp, go_sem, r24, q0, q1]
  |11, _ =>
   refine so rfl ?_
   intro fb wi hx hb hd K hK
   have x5 : fb.eval (.tmp 5) = .slice (some ⟨gP, 0, none⟩) 4 4 := hb 5 (by kernel_rfl)
   refine step_valR (wanted_all rfl) (v := .slice (some ⟨gP, 0, none⟩) 4 4) (w' := wi) (fun ρ hρ hc => ?_) (hK _ _ (Ext.refl _) (rfl))
   have r5 := (hρ (.tmp 5)).trans x5
   simp [execOp, go_sem, r5]
  |12, _ =>
   refine so rfl ?_
   intro fb wi hx hb hd K hK
   have x26 : fb.eval (.tmp 26) = .slice (some ⟨gP, 0, none⟩) 4 4 := hd 11 26 rfl (by kernel_rfl)
   refine step_valR (wanted_all rfl) (v := .pointer (some ⟨gP, 4, none⟩)) (w' := wi) (fun ρ hρ hc => ?_) (hK _ _ (Ext.refl _) (rfl))
   have r26 := (hρ (.tmp 26)).trans x26
   simp [execOp, go_sem, hc, r26]
  |13, _ =>
   refine so rfl ?_
   intro fb wi hx hb hd K hK
   have x27 : fb.eval (.tmp 27) = .pointer (some ⟨gP, 4, none⟩) := hd 12 27 rfl (by kernel_rfl)
   have q0 : wi.cell? ⟨gP, 4, none⟩ = some (.int .i64 ((x, y) : Spot).1) := (HP.out.ext hx).cell 4
   have q1 : wi.cell? ⟨gP, 5, none⟩ = some (.int .i64 ((x, y) : Spot).2) := (HP.out.ext hx).cell 5
   simp only at q0 q1
   refine step_valR (wanted_all rfl) (v := SV (x, y)) (w' := wi) (fun ρ hρ hc => ?_) (hK _ _ (Ext.refl _) (rfl))
   have r27 := (hρ (.tmp 27)).trans x27
   simp [execOp, go_sem, r27, q0, q1]
  |14, _ =>
   refine so rfl ?_
   intro fb wi hx hb hd K hK
   have x25 : fb.eval (.tmp 25) = SV (x, 0) := hd 10 25 rfl (by kernel_rfl)
   have x28 : fb.eval (.tmp 28) = SV (x, y) := hd 13 28 rfl (by kernel_rfl)
   refine step_valR (wanted_all rfl) (v := .slice (some ⟨wi.heap.size, 0, none⟩) 2 2) (w' := wi.alloc (.cells (scells [(x, 0), (x, y)]).toArray 49)) (fun ρ hρ hc => ?_) (hK _ _ ((Ext.refl _).alloc _) (⟨wi.heap.size, rfl, Blk.new' rfl⟩))
   have r25 := (hρ (.tmp 25)).trans x25
   have r28 := (hρ (.tmp 28)).trans x28
   simp [execOp, go_sem, r25, r28, scells]
  |15, _ =>
   refine so rfl ?_
   intro fb wi hx hb hd K hK
   have y29 : IsRow 49 (scells [(x, 0), (x, y)]) (fb.eval (.tmp 29)) wi := hd 14 29 rfl (by kernel_rfl)
   obtain ⟨g, x29, hbg⟩ := y29
   refine step_valR (wanted_all rfl) (v := .agg #[.string rightN, .slice (some ⟨g, 0, none⟩) 2 2]) (w' := wi) (fun ρ hρ hc => ?_) (hK _ _ (Ext.refl _) (⟨g, rfl, hbg⟩))
   have r29 := (hρ (.tmp 29)).trans x29
   simp [execOp, go_sem, hc, r29, rightN]
  |16, _ =>
   refine so rfl ?_
   intro fb wi hx hb hd K hK
   have x5 : fb.eval (.tmp 5) = .slice (some ⟨gP, 0, none⟩) 4 4 := hb 5 (by kernel_rfl)
   refine step_valR (wanted_all rfl) (v := .slice (some ⟨gP, 0, none⟩) 4 4) (w' := wi) (fun ρ hρ hc => ?_) (hK _ _ (Ext.refl _) (rfl))
   have r5 := (hρ (.tmp 5)).trans x5
   simp [execOp, go_sem, r5]
  |17, _ =>
   refine so rfl ?_
   intro fb wi hx hb hd K hK
   have x31 : fb.eval (.tmp 31) = .slice (some ⟨gP, 0, none⟩) 4 4 := hd 16 31 rfl (by kernel_rfl)
   refine step_valR (wanted_all rfl) (v := .pointer (some ⟨gP, 4, none⟩)) (w' := wi) (fun ρ hρ hc => ?_) (hK _ _ (Ext.refl _) (rfl))
   have r31 := (hρ (.tmp 31)).trans x31
   simp [execOp, go_sem, hc, r31]
  |18, _ =>
   refine so rfl ?_
   intro fb wi hx hb hd K hK
   have x32 : fb.eval (.tmp 32) = .pointer (some ⟨gP, 4, none⟩) := hd 17 32 rfl (by kernel_rfl)
   have q0 : wi.cell? ⟨gP, 4, none⟩ = some (.int .i64 ((x, y) : Spot).1) := (HP.out.ext hx).cell 4
   have q1 : wi.cell? ⟨gP, 5, none⟩ = some (.int .i64 ((x, y) : Spot).2) := (HP.out.ext hx).cell 5
   simp only at q0 q1
   refine step_valR (wanted_all rfl) (v := SV (x, y)) (w' := wi) (fun ρ hρ hc => ?_) (hK _ _ (Ext.refl _) (rfl))
   have r32 := (hρ (.tmp 32)).trans x32
   simp [execOp, go_sem, r32, q0, q1]
  |19, _ =>
   refine so rfl ?_
   intro fb wi hx hb hd K hK
   have x5 : fb.eval (.tmp 5) = .slice (some ⟨gP, 0, none⟩) 4 4 := hb 5 (by kernel_rfl)
   refine step_valR (wanted_all rfl) (v := .slice (some ⟨gP, 0, none⟩) 4 4) (w' := wi) (fun ρ hρ hc => ?_) (hK _ _ (Ext.refl _) (rfl))
   have r5 := (hρ (.tmp 5)).trans x5
   simp [execOp, go_sem, r5]
  |20, _ =>
   refine so rfl ?_
   intro fb wi hx hb hd K hK
   have x34 : fb.eval (.tmp 34) = .slice (some ⟨gP, 0, none⟩) 4 4 := hd 19 34 rfl (by kernel_rfl)
   refine step_valR (wanted_all rfl) (v := .pointer (some ⟨gP, 6, none⟩)) (w' := wi) (fun ρ hρ hc => ?_) (hK _ _ (Ext.refl _) (rfl))
   have r34 := (hρ (.tmp 34)).trans x34
   simp [execOp, go_sem, hc, r34]
  |21, _ =>
   refine so rfl ?_
   intro fb wi hx hb hd K hK
   have x35 : fb.eval (.tmp 35) = .pointer (some ⟨gP, 6, none⟩) := hd 20 35 rfl (by kernel_rfl)
   have q0 : wi.cell? ⟨gP, 6, none⟩ = some (.int .i64 ((0, y) : Spot).1) := (HP.out.ext hx).cell 6
   have q1 : wi.cell? ⟨gP, 7, none⟩ = some (.int .i64 ((0, y) : Spot).2) := (HP.out.ext hx).cell 7
   simp only at q0 q1
   refine step_valR (wanted_all rfl) (v := SV (0, y)) (w' := wi) (fun ρ hρ hc => ?_) (hK _ _ (Ext.refl _) (rfl))
   have r35 := (hρ (.tmp 35)).trans x35
   simp [execOp, go_sem, r35, q0, q1]
  |22, _ =>
   refine so rfl ?_
   intro fb wi hx hb hd K hK
   have x33 : fb.eval (.tmp 33) = SV (x, y) := hd 18 33 rfl (by kernel_rfl)
   have x36 : fb.eval (.tmp 36) = SV (0, y) := hd 21 36 rfl (by kernel_rfl)
   refine step_valR (wanted_all rfl) (v := .slice (some ⟨wi.heap.size, 0, none⟩) 2 2) (w' := wi.alloc (.cells (scells [(x, y), (0, y)]).toArray 49)) (fun ρ hρ hc => ?_) (hK _ _ ((Ext.refl _).alloc _) (⟨wi.heap.size, rfl, Blk.new' rfl⟩))
   have r33 := (hρ (.tmp 33)).trans x33
   have r36 := (hρ (.tmp 36)).trans x36
   simp [execOp, go_sem, r33, r36, scells]
  |23, _ =>
   refine so rfl ?_
   intro fb wi hx hb hd K hK
   have y37 : IsRow 49 (scells [(x, y), (0, y)]) (fb.eval (.tmp 37)) wi := hd 22 37 rfl (by kernel_rfl)
   obtain ⟨g, x37, hbg⟩ := y37
   refine step_valR (wanted_all rfl) (v := .agg #[.string highN, .slice (some ⟨g, 0, none⟩) 2 2]) (w' := wi) (fun ρ hρ hc => ?_) (hK _ _ (Ext.refl _) (⟨g, rfl, hbg⟩))
   have r37 := (hρ (.tmp 37)).trans x37
   simp [execOp, go_sem, hc, r37, highN]
  |24, _ =>
   refine so rfl ?_
   intro fb wi hx hb hd K hK
   have x5 : fb.eval (.tmp 5) = .slice (some ⟨gP, 0, none⟩) 4 4 := hb 5 (by kernel_rfl)
   refine step_valR (wanted_all rfl) (v := .slice (some ⟨gP, 0, none⟩) 4 4) (w' := wi) (fun ρ hρ hc => ?_) (hK _ _ (Ext.refl _) (rfl))
   have r5 := (hρ (.tmp 5)).trans x5
   simp [execOp, go_sem, r5]
  |25, _ =>
   refine so rfl ?_
   intro fb wi hx hb hd K hK
   have x39 : fb.eval (.tmp 39) = .slice (some ⟨gP, 0, none⟩) 4 4 := hd 24 39 rfl (by kernel_rfl)
   refine step_valR (wanted_all rfl) (v := .pointer (some ⟨gP, 6, none⟩)) (w' := wi) (fun ρ hρ hc => ?_) (hK _ _ (Ext.refl _) (rfl))
   have r39 := (hρ (.tmp 39)).trans x39
   simp [execOp, go_sem, hc, r39]
  |26, _ =>
   refine so rfl ?_
   intro fb wi hx hb hd K hK
   have x40 : fb.eval (.tmp 40) = .pointer (some ⟨gP, 6, none⟩) := hd 25 40 rfl (by kernel_rfl)
   have q0 : wi.cell? ⟨gP, 6, none⟩ = some (.int .i64 ((0, y) : Spot).1) := (HP.out.ext hx).cell 6
   have q1 : wi.cell? ⟨gP, 7, none⟩ = some (.int .i64 ((0, y) : Spot).2) := (HP.out.ext hx).cell 7
   simp only at q0 q1
   refine step_valR (wanted_all rfl) (v := SV (0, y)) (w' := wi) (fun ρ hρ hc => ?_) (hK _ _ (Ext.refl _) (rfl))
   have r40 := (hρ (.tmp 40)).trans x40
   simp [execOp, go_sem, r40, q0, q1]
  |27, _ =>
   refine so rfl ?_
   intro fb wi hx hb hd K hK
   have x5 : fb.eval (.tmp 5) = .slice (some ⟨gP, 0, none⟩) 4 4 := hb 5 (by kernel_rfl)
   refine step_valR (wanted_all rfl) (v := .slice (some ⟨gP, 0, none⟩) 4 4) (w' := wi) (fun ρ hρ hc => ?_) (hK _ _ (Ext.refl _) (rfl))
   have r5 := (hρ (.tmp 5)).trans x5
   simp [execOp, go_sem, r5]
  |28, _ =>
   refine so rfl ?_
   intro fb wi hx hb hd K hK
   have x42 : fb.eval (.tmp 42) = .slice (some ⟨gP, 0, none⟩) 4 4 := hd 27 42 rfl (by kernel_rfl)
   refine step_valR (wanted_all rfl) (v := .pointer (some ⟨gP, 0, none⟩)) (w' := wi) (fun ρ hρ hc => ?_) (hK _ _ (Ext.refl _) (rfl))
   have r42 := (hρ (.tmp 42)).trans x42
   simp [execOp, go_sem, hc, r42]
  |29, _ =>
   refine so rfl ?_
   intro fb wi hx hb hd K hK
   have x43 : fb.eval (.tmp 43) = .pointer (some ⟨gP, 0, none⟩) := hd 28 43 rfl (by kernel_rfl)
   have q0 : wi.cell? ⟨gP, 0, none⟩ = some (.int .i64 ((0, 0) : Spot).1) := (HP.out.ext hx).cell 0
   have q1 : wi.cell? ⟨gP, 1, none⟩ = some (.int .i64 ((0, 0) : Spot).2) := (HP.out.ext hx).cell 1
   simp only at q0 q1
   refine step_valR (wanted_all rfl) (v := SV (0, 0)) (w' := wi) (fun ρ hρ hc => ?_) (hK _ _ (Ext.refl _) (rfl))
   have r43 := (hρ (.tmp 43)).trans x43
   simp [execOp, go_sem, r43, q0, q1]
  |30, _ =>
   refine so rfl ?_
   intro fb wi hx hb hd K hK
   have x41 : fb.eval (.tmp 41) = SV (0, y) := hd 26 41 rfl (by kernel_rfl)
   have x44 : fb.eval (.tmp 44) = SV (0, 0) := hd 29 44 rfl (by kernel_rfl)
   refine step_valR (wanted_all rfl) (v := .slice (some ⟨wi.heap.size, 0, none⟩) 2 2) (w' := wi.alloc (.cells (scells [(0, y), (0, 0)]).toArray 49)) (fun ρ hρ hc => ?_) (hK _ _ ((Ext.refl _).alloc _) (⟨wi.heap.size, rfl, Blk.new' rfl⟩))
   have r41 := (hρ (.tmp 41)).trans x41
   have r44 := (hρ (.tmp 44)).trans x44
   simp [execOp, go_sem, r41, r44, scells]
  |31, _ =>
   refine so rfl ?_
   intro fb wi hx hb hd K hK
   have y45 : IsRow 49 (scells [(0, y), (0, 0)]) (fb.eval (.tmp 45)) wi := hd 30 45 rfl (by kernel_rfl)
   obtain ⟨g, x45, hbg⟩ := y45
   refine step_valR (wanted_all rfl) (v := .agg #[.string leftN, .slice (some ⟨g, 0, none⟩) 2 2]) (w' := wi) (fun ρ hρ hc => ?_) (hK _ _ (Ext.refl _) (⟨g, rfl, hbg⟩))
   have r45 := (hρ (.tmp 45)).trans x45
   simp [execOp, go_sem, hc, r45, leftN]
  |32, _ =>
   refine so rfl ?_
   intro fb wi hx hb hd K hK
   have y22 : IsSd lowN (scells [(0, 0), (x, 0)]) (fb.eval (.tmp 22)) wi := hd 7 22 rfl (by kernel_rfl)
   have y30 : IsSd rightN (scells [(x, 0), (x, y)]) (fb.eval (.tmp 30)) wi := hd 15 30 rfl (by kernel_rfl)
   have y38 : IsSd highN (scells [(x, y), (0, y)]) (fb.eval (.tmp 38)) wi := hd 23 38 rfl (by kernel_rfl)
   have y46 : IsSd leftN (scells [(0, y), (0, 0)]) (fb.eval (.tmp 46)) wi := hd 31 46 rfl (by kernel_rfl)
   obtain ⟨g22, x22, h22⟩ := y22
   obtain ⟨g30, x30, h30⟩ := y30
   obtain ⟨g38, x38, h38⟩ := y38
   obtain ⟨g46, x46, h46⟩ := y46
   have hxx : Ext wi (wi.alloc (.cells #[.string lowN, .slice (some ⟨g22, 0, none⟩) 2 2, .string rightN, .slice (some ⟨g30, 0, none⟩) 2 2, .string highN, .slice (some ⟨g38, 0, none⟩) 2 2, .string leftN, .slice (some ⟨g46, 0, none⟩) 2 2] 59)) := (Ext.refl _).alloc _
   refine step_valR (wanted_all rfl) (v := .slice (some ⟨wi.heap.size, 0, none⟩) 4 4) (w' := wi.alloc (.cells #[.string lowN, .slice (some ⟨g22, 0, none⟩) 2 2, .string rightN, .slice (some ⟨g30, 0, none⟩) 2 2, .string highN, .slice (some ⟨g38, 0, none⟩) 2 2, .string leftN, .slice (some ⟨g46, 0, none⟩) 2 2] 59)) (fun ρ hρ hc => ?_) (hK _ _ (hxx) (⟨wi.heap.size, g22, g30, g38, g46, rfl, ⟨Blk.new' rfl, h22.ext hxx, h30.ext hxx, h38.ext hxx, h46.ext hxx⟩⟩))
   have r22 := (hρ (.tmp 22)).trans x22
   have r30 := (hρ (.tmp 30)).trans x30
   have r38 := (hρ (.tmp 38)).trans x38
   have r46 := (hρ (.tmp 46)).trans x46
   simp [execOp, go_sem, r22, r30, r38, r46]
  |33, _ =>
   refine so rfl ?_
   intro fb wi hx hb hd K hK
   have y47 : IsRc x y (fb.eval (.tmp 47)) wi := hd 32 47 rfl (by kernel_rfl)
   refine step_valR (wanted_all rfl) (v := fb.eval (.tmp 47)) (w' := wi) (fun ρ hρ hc => ?_) (hK _ _ (Ext.refl _) y47)
   simp [execOp, go_sem, hρ (.tmp 47)]
  |n + 34, hn => exact absurd hn (by omega)
 ·skip
  simp only [frOf, putAll, List.drop_succ_cons, List.drop_zero, List.setIfInBounds_toArray, List.set_cons_succ, List.set_cons_zero, Nat.zero_add, Nat.reduceAdd]
  have HT4 : IsRc x y (xs 33) w1 := hT 33 (by decide)
  obtain ⟨gE, g1, g2, g3, g4, hv, hrc⟩ := HT4
  rw [hv]
  have HRC := Lib.hid hrc
  have HX9 := Lib.hid (HX0.out.trans hx)
  clear hT hrc hx hv
  go_wp2_with fail
  go_ret
  exact ⟨gE, g1, g2, g3, g4, rfl, HRC.out, HX9.out⟩
def IsPc (n : Nat) : Value → World → Prop := fun v w => ∃ g, v = .pointer (some ⟨g, 0, none⟩) ∧ ∃ cs, n ≤ g ∧ Blk 40 w g cs ∧ cs.length = 7
theorem IsPc.kp (n : Nat) : Kp (IsPc n) := fun v w w' he h => by obtain ⟨g, h1, cs, h2, h3, h4⟩ := h; exact ⟨g, h1, cs, h2, h3.ext he, h4⟩
def IsGe (n : Nat) (R : Int) (L : List Edge) : Value → World → Prop := fun v w => (R = 0 → OwnE w n v L) ∧ (R ≠ 0 → v = .slice none 0 0)
theorem IsGe.kp (n : Nat) (R : Int) (L : List Edge) : Kp (IsGe n R L) := fun v w w' he h => ⟨fun h0 => (h.1 h0).ext he, h.2⟩
def IsG (n : Nat) (R : Int) (L : List Edge) : Value → World → Prop := fun v w => ∃ u, v = .tuple #[u, .int .i64 R] ∧ IsGe n R L u w
theorem IsG.kp (n : Nat) (R : Int) (L : List Edge) : Kp (IsG n R L) := fun v w w' he h => by obtain ⟨u, h1, h2⟩ := h; exact ⟨u, h1, IsGe.kp n R L u w w' he h2⟩
theorem retG_is {P : Program} {f : FuncId} {args : Array Value} {w : World} {es : List Edge} {cs : List Spot} {m : Int} {n : Nat} (h : Calls P f args w (RetG w es cs m)) (hn : n ≤ w.heap.size) : Calls P f args w (Ret (IsG n (gradedR es cs m) (gradedE es cs m)) w) := h.mono fun _ _ h => by
 obtain ⟨v, h1, h2, h3, h4⟩ := h; exact ⟨_, h1, ⟨v, rfl, fun h0 => (h2 h0).base_le hn, h3⟩, h4⟩
theorem own_low {K : Nat → Prop} {w w' : World} {base : Nat} {e : TypeId} {size : Nat} {v : Value} {n : Nat} {xs : List Value} (h : w.ownsRow base e size v n xs) (he : Kept K w w') (hk : ∀ k, K k → k < base) : w'.ownsRow base e size v n xs :=
 own_kept h he fun k e hK => by
  rcases h.2 with ⟨rfl, _⟩ | ⟨g, cap, cur, rfl, hb, _⟩
  ·cases e
  ·have h1 := hk k hK
   have h2 : g = k := Option.some.inj e
   omega
theorem OwnE.low {K : Nat → Prop} {w w' : World} {base : Nat} {v : Value} {es : List Edge} (h : OwnE w base v es) (he : Kept K w w') (hk : ∀ k, K k → k < base) : OwnE w' base v es := by
 obtain ⟨ps, ⟨h0, h1⟩, h2⟩ := h
 exact ⟨ps, ⟨h0, fun k hk' => ⟨(h1 k hk').1, own_low (h1 k hk').2 he hk⟩⟩, own_low h2 he hk⟩
def olR (b : Nat) (w w' : World) : Prop := Kept (fun k => k = b) w w' ∧ (HasP w b → HasP w' b)
theorem olR_refl (b : Nat) (w : World) : olR b w w := ⟨Kept.refl _ _, fun h => h⟩
def olT (b : Nat) (v : Value) (R : Int) (nm : ByteArray) (A1 A3 A4 A5 : Option Addr) (n1 c1 n3 c3 n4 c4 n5 c5 : Nat) (gr : Int) (mt : Bool) : Nat → Value → World → Prop
 |0, u, _ => u = v
 |1, u, _ => u = .agg #[.string nm, .slice A1 n1 c1, .int .i64 gr, .slice A3 n3 c3, .slice A4 n4 c4, .slice A5 n5 c5, .bool mt]
 |2, u, _ => u = .int .i64 R
 |3, u, _ => u = v
 |4, _, w => Blk 40 w b [.string nm, .slice A1 n1 c1, .int .i64 gr, .slice A3 n3 c3, .slice A4 n4 c4, .slice A5 n5 c5, .bool mt]
 |_, _, _ => True
theorem olT_ne {b : Nat} {v : Value} {R : Int} {nm : ByteArray} {A1 A3 A4 A5 : Option Addr} {n1 c1 n3 c3 n4 c4 n5 c5 : Nat} {gr : Int} {mt : Bool} {j : Nat} {u : Value} {w w' : World} (hj : j ≠ 4) (h : olT b v R nm A1 A3 A4 A5 n1 c1 n3 c3 n4 c4 n5 c5 gr mt j u w) : olT b v R nm A1 A3 A4 A5 n1 c1 n3 c3 n4 c4 n5 c5 gr mt j u w' := by
 match j, hj with
 |0, _ => exact h
 |1, _ => exact h
 |2, _ => exact h
 |3, _ => exact h
 |4, hj => exact absurd rfl hj
 |n + 5, _ => trivial
def RetOl (w : World) (p : Pc) (m : Int) (e : Ending) (w' : World) : Prop := ∃ v, ∃ pa : PcA, e = .returned (.tuple #[v, pa.val, .int .i64 (gradedR p.es p.cs m)]) ∧ PcAt w' pa p ∧ (gradedR p.es p.cs m = 0 → OwnE w' w.heap.size v (gradedE p.es p.cs m)) ∧ (gradedR p.es p.cs m ≠ 0 → v = .slice none 0 0) ∧ Ext w w'
set_option maxRecDepth 100000 in
set_option maxHeartbeats 3200000 in
theorem outlineOf_any (a : StyA) (x : StyX) (sz us pi : Nat) (w : World) (hs : StyXAt w a x) (hN : x.sz.length ≤ 1000) (hZ : ∀ k, k < x.sz.length → (gB x.sz k).size ≤ 1000) (hok : styE x = 0) (hsz : sz < x.sz.length) (hlm : x.ms.length = x.sz.length) (hus : us < x.us.length) (hpi : (gU x.us us).pc = (pi : Int)) (hpl : pi < x.ps.length) :
  Calls Tryz.prog 29 #[a.val, .int .i64 (sz : Int), .int .i64 (us : Int)] w (RetOl w (gPx x.ps pi).p (gI x.ms sz)) := by
 have HS := Lib.hid hs
 have HCK := Lib.hid (fun W (h : Ext w W) => styCheck_any a x W (hs.ext h) hN hZ)
 have HOK := Lib.hid hok; have HSZ := Lib.hid hsz; have HLM := Lib.hid hlm; have HUS := Lib.hid hus; have HPI := Lib.hid hpi; have HPL := Lib.hid hpl
 clear hs hN hZ hok hsz hlm hus hpi hpl
 obtain ⟨nm, AS, nS, cS, AM, nM, cM, AP, nP, cP, AU, nU, cU, AK, nK, cK, AO, nO, cO⟩ := a
 have HLS : Hid (x.sz.length = nS) := HS.out.lS
 have HLMM : Hid (x.ms.length = nM) := HS.out.lM
 have HLP : Hid (x.ps.length = nP) := HS.out.lP
 have HLU : Hid (x.us.length = nU) := HS.out.lU
 have hbS : nS ≤ 9223372036854775807 := HS.out.bS
 have hbM : nM ≤ 9223372036854775807 := HS.out.bM
 have hbP : nP ≤ 9223372036854775807 := HS.out.bP
 have hbU : nU ≤ 9223372036854775807 := HS.out.bU
 have h1 : sz < nS := by have := HSZ.out; have := HLS.out; omega
 have h2 : sz < nM := by have := HLM.out; have := HLMM.out; have := HLS.out; omega
 have h3 : us < nU := by have := HUS.out; have := HLU.out; omega
 have h4 : pi < nP := by have := HPL.out; have := HLP.out; omega
 have HMS := Lib.hid HS.out.M; have HPS := Lib.hid HS.out.P; have HUA := Lib.hid HS.out.U
 clear HS
 simp only [StyA.val] at HCK HMS HPS HUA ⊢
 go_enter Tryz.func29, Tryz.ntmps29
 go_upto_region 1 with fail
 refine wp_at fun W0 hW0 => ?_
 have HB0 : Hid (Blk 29 W0 w.heap.size [.string nm, .slice AS nS cS, .slice AM nM cM, .slice AP nP cP, .slice AU nU cU, .slice AK nK cK, .slice AO nO cO]) := by show Blk _ _ _ _; rw [hW0]; exact (Blk.new' rfl).ext ((Ext.refl _).alloc _)
 have HX0 : Hid (Ext w W0) := by show Ext _ _; rw [hW0]; exact ((Ext.refl _).alloc _).alloc _
 have HR0 : Hid (∃ cs, Blk 40 W0 (w.heap.size + 1) cs ∧ cs.length = 7) := by show ∃ cs, _; rw [hW0]; exact ⟨_, Blk.new' (by simp), rfl⟩
 clear hW0
 obtain ⟨c0, c1, c2, c3, c4, c5, c6⟩ := blk7 HB0.out
 go_wp2_with fail
 refine (HCK.out _ HX0.out).mono ?_
 rintro e wA ⟨rfl, he1⟩
 have HX1 := Lib.hid he1
 rw [HOK.out]
 clear he1 c0 c1 c2 c3 c4 c5 c6
 obtain ⟨c0, c1, c2, c3, c4, c5, c6⟩ := blk7 (HB0.out.ext HX1.out)
 have hb1 : ((sz : Int) < 0) = False := by simp
 have hb2 : ¬ ((nS : Int) ≤ (sz : Int)) := by omega
 have hb3 : ¬ ((nU : Int) ≤ (us : Int)) := by omega
 go_wp2_with fail
 have HXW := Lib.hid (HX0.out.trans HX1.out)
 obtain ⟨bu, ou, hAU, u0, u1, u2⟩ := (HUA.out.ext HXW.out) us HUS.out
 subst hAU
 rw [HPI.out] at u0
 obtain ⟨bz, oz, qa, hAZ, hq0, hcq0, hzz1, hzz2⟩ := HPS.out pi HPL.out
 have hq := hq0.ext HXW.out
 have hcq := hcq0.ext HXW.out
 clear hcq0
 subst hAZ
 clear hzz1 hzz2 u1 u2
 obtain ⟨bm, om, hAM, m0⟩ := (HMS.out.ext HXW.out).g (k := sz) (by have := HLMM.out; omega)
 subst hAM
 obtain ⟨P, hP⟩ : ∃ P, P = (gPx x.ps pi).p := ⟨_, rfl⟩
 obtain ⟨m, hm⟩ : ∃ m, m = gI x.ms sz := ⟨_, rfl⟩
 rw [← hP] at hq0 hq ⊢
 have HQ0 := Lib.hid hq0
 clear hq0
 rw [← hm] at m0 ⊢
 have HQ := Lib.hid hq
 have HGR := Lib.hid (fun W (h : Ext wA W) => graded_any qa.nm qa.AE qa.AN qa.AC qa.AW qa.nE qa.cE qa.nN qa.cN qa.nC qa.cC qa.nW qa.cW qa.gr m qa.mt P.es P.cs W (hq.e.ext h) hq.le hq.ce hq.ce' (hq.c.ext h) hq.lc hq.nc)
 have HPP := Lib.hid hP; have HMM := Lib.hid hm
 clear hP hm hq
 have HM0 := Lib.hid m0
 obtain ⟨pnm, pAE, pnE, pcE, pgr, pAN, pnN, pcN, pAC, pnC, pcC, pAW, pnW, pcW, pmt⟩ := qa
 simp only at HGR
 have HPC := Lib.hid hcq
 have HU0 := Lib.hid u0
 have HB1 := Lib.hid (HB0.out.ext HX1.out)
 clear hcq u0 c0 c1 c2 c3 c4 c5 c6
 have hpn : (pi : Int) < nP := by omega
 have hun : (us : Int) < nU := by omega
 clear m0
 refine region_slotsL (l := 11) (N := 63) (W0 := wA) [40, 41, 42, 43, 44, 45, 46, 47, 48, 49, 10] [Fx (.pointer (some ⟨w.heap.size, 3, none⟩)), Fx (.slice (some ⟨bz, oz, none⟩) nP cP), Fx (.pointer (some ⟨w.heap.size, 4, none⟩)), Fx (.slice (some ⟨bu, ou, none⟩) nU cU), Fx (.int .i64 (us : Int)), Fx (.pointer (some ⟨bu, ou + us * 3, none⟩)), Fx (.pointer (some ⟨bu, ou + us * 3, none⟩)), Fx (.int .i64 (pi : Int)), Fx (.pointer (some ⟨bz, oz + pi * 7, none⟩)), Fx (.agg #[.string pnm, .slice pAE pnE pcE, .int .i64 pgr, .slice pAN pnN pcN, .slice pAC pnC pcC, .slice pAW pnW pcW, .bool pmt]), IsPc wA.heap.size] (by kernel_rfl) (by kernel_rfl) (by kernel_rfl) (by kernel_rfl) (Ext.refl _) ?kp (fun i hi => ?_) (fun xs w1 hx hT => ?_)
 case kp => exact ⟨Fx.kp _, Fx.kp _, Fx.kp _, Fx.kp _, Fx.kp _, Fx.kp _, Fx.kp _, Fx.kp _, Fx.kp _, Fx.kp _, IsPc.kp _, trivial⟩
 ·match i, hi with
  |0, _ =>
   refine so rfl ?_
   intro fb wi hx hb hd K hK
   have x3 : fb.eval (.tmp 3) = .pointer (some ⟨w.heap.size, 0, none⟩) := hb 3 (by kernel_rfl)
   refine step_valR (wanted_all rfl) (v := .pointer (some ⟨w.heap.size, 3, none⟩)) (w' := wi) (fun ρ hρ hc => ?_) (hK _ _ (Ext.refl _) (rfl))
   have r3 := (hρ (.tmp 3)).trans x3
   simp [execOp, go_sem, r3]
  |1, _ =>
   refine so rfl ?_
   intro fb wi hx hb hd K hK
   have x40 : fb.eval (.tmp 40) = .pointer (some ⟨w.heap.size, 3, none⟩) := hd 0 40 rfl (by kernel_rfl)
   have cf0 := (HB1.out.ext hx).cell 3
   simp only [List.getElem?_cons_zero, List.getElem?_cons_succ] at cf0
   refine step_valR (wanted_all rfl) (v := .slice (some ⟨bz, oz, none⟩) nP cP) (w' := wi) (fun ρ hρ hc => ?_) (hK _ _ (Ext.refl _) (rfl))
   have r40 := (hρ (.tmp 40)).trans x40
   simp [execOp, go_sem, r40, cf0]
  |2, _ =>
   refine so rfl ?_
   intro fb wi hx hb hd K hK
   have x3 : fb.eval (.tmp 3) = .pointer (some ⟨w.heap.size, 0, none⟩) := hb 3 (by kernel_rfl)
   refine step_valR (wanted_all rfl) (v := .pointer (some ⟨w.heap.size, 4, none⟩)) (w' := wi) (fun ρ hρ hc => ?_) (hK _ _ (Ext.refl _) (rfl))
   have r3 := (hρ (.tmp 3)).trans x3
   simp [execOp, go_sem, r3]
  |3, _ =>
   refine so rfl ?_
   intro fb wi hx hb hd K hK
   have x42 : fb.eval (.tmp 42) = .pointer (some ⟨w.heap.size, 4, none⟩) := hd 2 42 rfl (by kernel_rfl)
   have cf0 := (HB1.out.ext hx).cell 4
   simp only [List.getElem?_cons_zero, List.getElem?_cons_succ] at cf0
   refine step_valR (wanted_all rfl) (v := .slice (some ⟨bu, ou, none⟩) nU cU) (w' := wi) (fun ρ hρ hc => ?_) (hK _ _ (Ext.refl _) (rfl))
   have r42 := (hρ (.tmp 42)).trans x42
   simp [execOp, go_sem, r42, cf0]
  |4, _ =>
   refine so rfl ?_
   intro fb wi hx hb hd K hK
   have x2 : fb.eval (.tmp 2) = .int .i64 (us : Int) := hb 2 (by kernel_rfl)
   refine step_valR (wanted_all rfl) (v := .int .i64 (us : Int)) (w' := wi) (fun ρ hρ hc => ?_) (hK _ _ (Ext.refl _) (rfl))
   have r2 := (hρ (.tmp 2)).trans x2
   simp [execOp, go_sem, r2]
  |5, _ =>
   refine so rfl ?_
   intro fb wi hx hb hd K hK
   have x43 : fb.eval (.tmp 43) = .slice (some ⟨bu, ou, none⟩) nU cU := hd 3 43 rfl (by kernel_rfl)
   have x44 : fb.eval (.tmp 44) = .int .i64 (us : Int) := hd 4 44 rfl (by kernel_rfl)
   refine step_valR (wanted_all rfl) (v := .pointer (some ⟨bu, ou + us * 3, none⟩)) (w' := wi) (fun ρ hρ hc => ?_) (hK _ _ (Ext.refl _) (rfl))
   have r43 := (hρ (.tmp 43)).trans x43
   have r44 := (hρ (.tmp 44)).trans x44
   simp [execOp, go_sem, r43, r44, hun, h3]
  |6, _ =>
   refine so rfl ?_
   intro fb wi hx hb hd K hK
   have x45 : fb.eval (.tmp 45) = .pointer (some ⟨bu, ou + us * 3, none⟩) := hd 5 45 rfl (by kernel_rfl)
   refine step_valR (wanted_all rfl) (v := .pointer (some ⟨bu, ou + us * 3, none⟩)) (w' := wi) (fun ρ hρ hc => ?_) (hK _ _ (Ext.refl _) (rfl))
   have r45 := (hρ (.tmp 45)).trans x45
   simp [execOp, go_sem, r45]
  |7, _ =>
   refine so rfl ?_
   intro fb wi hx hb hd K hK
   have x46 : fb.eval (.tmp 46) = .pointer (some ⟨bu, ou + us * 3, none⟩) := hd 6 46 rfl (by kernel_rfl)
   have v0 := hx.cell HU0.out
   refine step_valR (wanted_all rfl) (v := .int .i64 (pi : Int)) (w' := wi) (fun ρ hρ hc => ?_) (hK _ _ (Ext.refl _) (rfl))
   have r46 := (hρ (.tmp 46)).trans x46
   simp [execOp, go_sem, r46, v0]
  |8, _ =>
   refine so rfl ?_
   intro fb wi hx hb hd K hK
   have x41 : fb.eval (.tmp 41) = .slice (some ⟨bz, oz, none⟩) nP cP := hd 1 41 rfl (by kernel_rfl)
   have x47 : fb.eval (.tmp 47) = .int .i64 (pi : Int) := hd 7 47 rfl (by kernel_rfl)
   refine step_valR (wanted_all rfl) (v := .pointer (some ⟨bz, oz + pi * 7, none⟩)) (w' := wi) (fun ρ hρ hc => ?_) (hK _ _ (Ext.refl _) (rfl))
   have r41 := (hρ (.tmp 41)).trans x41
   have r47 := (hρ (.tmp 47)).trans x47
   simp [execOp, go_sem, r41, r47, hpn, h4]
  |9, _ =>
   refine so rfl ?_
   intro fb wi hx hb hd K hK
   have x48 : fb.eval (.tmp 48) = .pointer (some ⟨bz, oz + pi * 7, none⟩) := hd 8 48 rfl (by kernel_rfl)
   obtain ⟨d0, d1, d2, d3, d4, d5, d6⟩ := HPC.out.ext hx
   refine step_valR (wanted_all rfl) (v := .agg #[.string pnm, .slice pAE pnE pcE, .int .i64 pgr, .slice pAN pnN pcN, .slice pAC pnC pcC, .slice pAW pnW pcW, .bool pmt]) (w' := wi) (fun ρ hρ hc => ?_) (hK _ _ (Ext.refl _) (rfl))
   have r48 := (hρ (.tmp 48)).trans x48
   simp [execOp, go_sem, r48, d0, d1, d2, d3, d4, d5, d6]
  |10, _ =>
   refine so rfl ?_
   intro fb wi hx hb hd K hK
   refine step_valR (wanted_all rfl) (v := .pointer (some ⟨wi.heap.size, 0, none⟩)) (w' := wi.alloc (.cells #[.string ⟨#[]⟩, .slice none 0 0, .int .i64 0, .slice none 0 0, .slice none 0 0, .slice none 0 0, .bool false] 40)) (fun ρ hρ hc => ?_) (hK _ _ ((Ext.refl _).alloc _) (⟨wi.heap.size, rfl, _, hx.size, Blk.new' (by simp), rfl⟩))
   simp [execOp, go_sem]
  |n + 11, hn => exact absurd hn (by omega)
 ·skip
  have t10 : IsPc wA.heap.size (xs 10) w1 := hT 10 (by decide)
  have t49 : Fx (.agg #[.string pnm, .slice pAE pnE pcE, .int .i64 pgr, .slice pAN pnN pcN, .slice pAC pnC pcC, .slice pAW pnW pcW, .bool pmt]) (xs 9) w1 := hT 9 (by decide)
  simp only [frOf, putAll, List.drop_succ_cons, List.drop_zero, List.setIfInBounds_toArray, List.set_cons_succ, List.set_cons_zero, Nat.zero_add, Nat.reduceAdd]
  obtain ⟨g, hg, zc, hgs, hbl, hcl⟩ := t10
  obtain ⟨p6, hp6⟩ : ∃ v, v = xs 10 := ⟨_, rfl⟩
  rw [← hp6] at hg ⊢
  clear hp6
  subst hg
  match zc, hcl with
  |[z0, z1, z2, z3, z4, z5, z6], _ =>
  obtain ⟨e0, e1, e2, e3, e4, e5, e6⟩ := blk7 hbl
  have hxs9 : xs 9 = .agg #[.string pnm, .slice pAE pnE pcE, .int .i64 pgr, .slice pAN pnN pcN, .slice pAC pnC pcC, .slice pAW pnW pcW, .bool pmt] := t49
  rw [hxs9]
  have f0 := hbl.frozen 0; have f1 := hbl.frozen 1; have f2 := hbl.frozen 2; have f3 := hbl.frozen 3; have f4 := hbl.frozen 4; have f5 := hbl.frozen 5; have f6 := hbl.frozen 6
  have hgl := hbl.lt
  have HXR := Lib.hid hx
  have HBL := Lib.hid hbl
  clear hT t49 hxs9 hx hbl
  go_upto_region 7 with fail
  refine wp_at fun W2 hW2 => ?_
  have HB2 : Hid (Blk 40 W2 g [.string pnm, .slice pAE pnE pcE, .int .i64 pgr, .slice pAN pnN pcN, .slice pAC pnC pcC, .slice pAW pnW pcW, .bool pmt]) := by show Blk _ _ _ _; rw [hW2]; exact Blk.put7 ⟨_, _, _, _, _, _, _, HBL.out⟩ _ _ _ _ _ _ _
  have HX2 : Hid (Ext wA W2) := by show Ext _ _; rw [hW2]; exact ext_put7 HXR.out hgs _ _ _ _ _ _ _
  clear hW2 HBL HXR f0 f1 f2 f3 f4 f5 f6 e0 e1 e2 e3 e4 e5 e6
  obtain ⟨c0, c1, c2, c3, c4, c5, c6⟩ := blk7 (HB1.out.ext HX2.out)
  obtain ⟨d0, d1, d2, d3, d4, d5, d6⟩ := blk7 HB2.out
  have m0 := HX2.out.cell HM0.out
  have hmn : (sz : Int) < nM := by omega
  have HB3 := Lib.hid (HB1.out.ext HX2.out)
  have HM3 := Lib.hid m0
  clear m0 c0 c1 c2 c3 c4 c5 c6 d0 d1 d2 d3 d4 d5 d6
  refine region_slots0 (l := 12) (N := 63) (W0 := W2) [51, 52, 53, 54, 55, 56, 57, 50, 58, 59, 11, 12] [Fx (.agg #[.string pnm, .slice pAE pnE pcE, .int .i64 pgr, .slice pAN pnN pcN, .slice pAC pnC pcC, .slice pAW pnW pcW, .bool pmt]), Fx (.pointer (some ⟨w.heap.size, 2, none⟩)), Fx (.slice (some ⟨bm, om, none⟩) nM cM), Fx (.int .i64 (sz : Int)), Fx (.pointer (some ⟨bm, om + sz, none⟩)), Fx (.int .i64 m), IsG W2.heap.size (gradedR P.es P.cs m) (gradedE P.es P.cs m), IsG W2.heap.size (gradedR P.es P.cs m) (gradedE P.es P.cs m), IsGe W2.heap.size (gradedR P.es P.cs m) (gradedE P.es P.cs m), Fx (.int .i64 (gradedR P.es P.cs m)), IsGe W2.heap.size (gradedR P.es P.cs m) (gradedE P.es P.cs m), Fx (.int .i64 (gradedR P.es P.cs m))] (by kernel_rfl) (by kernel_rfl) (by kernel_rfl) (by kernel_rfl) (Ext.refl _) ?kp (fun i hi => ?_) (fun xs w1 hx hT => ?_)
  case kp => exact ⟨Fx.kp _, Fx.kp _, Fx.kp _, Fx.kp _, Fx.kp _, Fx.kp _, IsG.kp _ _ _, IsG.kp _ _ _, IsGe.kp _ _ _, Fx.kp _, IsGe.kp _ _ _, Fx.kp _, trivial⟩
  ·match i, hi with
   |0, _ =>
    refine so rfl ?_
    intro fb wi hx hb hd K hK
    have x10 : fb.eval (.tmp 10) = .pointer (some ⟨g, 0, none⟩) := hb 10 (by kernel_rfl)
    obtain ⟨d0, d1, d2, d3, d4, d5, d6⟩ := blk7 (HB2.out.ext hx)
    refine step_valR (wanted_all rfl) (v := .agg #[.string pnm, .slice pAE pnE pcE, .int .i64 pgr, .slice pAN pnN pcN, .slice pAC pnC pcC, .slice pAW pnW pcW, .bool pmt]) (w' := wi) (fun ρ hρ hc => ?_) (hK _ _ (Ext.refl _) (rfl))
    have r10 := (hρ (.tmp 10)).trans x10
    simp [execOp, go_sem, r10, d0, d1, d2, d3, d4, d5, d6]
   |1, _ =>
    refine so rfl ?_
    intro fb wi hx hb hd K hK
    have x3 : fb.eval (.tmp 3) = .pointer (some ⟨w.heap.size, 0, none⟩) := hb 3 (by kernel_rfl)
    refine step_valR (wanted_all rfl) (v := .pointer (some ⟨w.heap.size, 2, none⟩)) (w' := wi) (fun ρ hρ hc => ?_) (hK _ _ (Ext.refl _) (rfl))
    have r3 := (hρ (.tmp 3)).trans x3
    simp [execOp, go_sem, r3]
   |2, _ =>
    refine so rfl ?_
    intro fb wi hx hb hd K hK
    have x52 : fb.eval (.tmp 52) = .pointer (some ⟨w.heap.size, 2, none⟩) := hd 1 52 rfl (by kernel_rfl)
    have cf0 := (HB3.out.ext hx).cell 2
    simp only [List.getElem?_cons_zero, List.getElem?_cons_succ] at cf0
    refine step_valR (wanted_all rfl) (v := .slice (some ⟨bm, om, none⟩) nM cM) (w' := wi) (fun ρ hρ hc => ?_) (hK _ _ (Ext.refl _) (rfl))
    have r52 := (hρ (.tmp 52)).trans x52
    simp [execOp, go_sem, r52, cf0]
   |3, _ =>
    refine so rfl ?_
    intro fb wi hx hb hd K hK
    have x1 : fb.eval (.tmp 1) = .int .i64 (sz : Int) := hb 1 (by kernel_rfl)
    refine step_valR (wanted_all rfl) (v := .int .i64 (sz : Int)) (w' := wi) (fun ρ hρ hc => ?_) (hK _ _ (Ext.refl _) (rfl))
    have r1 := (hρ (.tmp 1)).trans x1
    simp [execOp, go_sem, r1]
   |4, _ =>
    refine so rfl ?_
    intro fb wi hx hb hd K hK
    have x53 : fb.eval (.tmp 53) = .slice (some ⟨bm, om, none⟩) nM cM := hd 2 53 rfl (by kernel_rfl)
    have x54 : fb.eval (.tmp 54) = .int .i64 (sz : Int) := hd 3 54 rfl (by kernel_rfl)
    refine step_valR (wanted_all rfl) (v := .pointer (some ⟨bm, om + sz, none⟩)) (w' := wi) (fun ρ hρ hc => ?_) (hK _ _ (Ext.refl _) (rfl))
    have r53 := (hρ (.tmp 53)).trans x53
    have r54 := (hρ (.tmp 54)).trans x54
    simp [execOp, go_sem, r53, r54, hmn, h2]
   |5, _ =>
    refine so rfl ?_
    intro fb wi hx hb hd K hK
    have x55 : fb.eval (.tmp 55) = .pointer (some ⟨bm, om + sz, none⟩) := hd 4 55 rfl (by kernel_rfl)
    have v0 := hx.cell HM3.out
    refine step_valR (wanted_all rfl) (v := .int .i64 m) (w' := wi) (fun ρ hρ hc => ?_) (hK _ _ (Ext.refl _) (rfl))
    have r55 := (hρ (.tmp 55)).trans x55
    simp [execOp, go_sem, r55, v0]
   |6, _ =>
    refine so rfl ?_
    intro fb wi hx hb hd K hK
    have x51 : fb.eval (.tmp 51) = .agg #[.string pnm, .slice pAE pnE pcE, .int .i64 pgr, .slice pAN pnN pcN, .slice pAC pnC pcC, .slice pAW pnW pcW, .bool pmt] := hd 0 51 rfl (by kernel_rfl)
    have x56 : fb.eval (.tmp 56) = .int .i64 m := hd 5 56 rfl (by kernel_rfl)
    refine step_callW (wanted_all rfl) 15 [.tmp 51, .tmp 56] #[40, 3] rfl _ Tryz.func15 rfl (by decide +kernel) [.agg #[.string pnm, .slice pAE pnE pcE, .int .i64 pgr, .slice pAN pnN pcN, .slice pAC pnC pcC, .slice pAW pnW pcW, .bool pmt], .int .i64 m] (by simp only [List.map_cons, List.map_nil, x51, x56]) (retG_is (HGR.out wi (HX2.out.trans hx)) hx.size) (fun e w' h => ?_)
    obtain ⟨v, rfl, hv, hx'⟩ := h
    exact ⟨_, rfl, hK _ _ hx' hv⟩
   |7, _ =>
    refine so rfl ?_
    intro fb wi hx hb hd K hK
    have y57 : IsG W2.heap.size (gradedR P.es P.cs m) (gradedE P.es P.cs m) (fb.eval (.tmp 57)) wi := hd 6 57 rfl (by kernel_rfl)
    refine step_valR (wanted_all rfl) (v := fb.eval (.tmp 57)) (w' := wi) (fun ρ hρ hc => ?_) (hK _ _ (Ext.refl _) y57)
    simp [execOp, go_sem, hρ (.tmp 57)]
   |8, _ =>
    refine so rfl ?_
    intro fb wi hx hb hd K hK
    have y50 : IsG W2.heap.size (gradedR P.es P.cs m) (gradedE P.es P.cs m) (fb.eval (.tmp 50)) wi := hd 7 50 rfl (by kernel_rfl)
    obtain ⟨u50, x50, hu50⟩ := y50
    refine step_valR (wanted_all rfl) (v := u50) (w' := wi) (fun ρ hρ hc => ?_) (hK _ _ (Ext.refl _) (hu50))
    have r50 := (hρ (.tmp 50)).trans x50
    simp [execOp, go_sem, r50]
   |9, _ =>
    refine so rfl ?_
    intro fb wi hx hb hd K hK
    have y50 : IsG W2.heap.size (gradedR P.es P.cs m) (gradedE P.es P.cs m) (fb.eval (.tmp 50)) wi := hd 7 50 rfl (by kernel_rfl)
    obtain ⟨u50, x50, hu50⟩ := y50
    refine step_valR (wanted_all rfl) (v := .int .i64 (gradedR P.es P.cs m)) (w' := wi) (fun ρ hρ hc => ?_) (hK _ _ (Ext.refl _) (rfl))
    have r50 := (hρ (.tmp 50)).trans x50
    simp [execOp, go_sem, r50]
   |10, _ =>
    refine so rfl ?_
    intro fb wi hx hb hd K hK
    have y58 : IsGe W2.heap.size (gradedR P.es P.cs m) (gradedE P.es P.cs m) (fb.eval (.tmp 58)) wi := hd 8 58 rfl (by kernel_rfl)
    refine step_valR (wanted_all rfl) (v := fb.eval (.tmp 58)) (w' := wi) (fun ρ hρ hc => ?_) (hK _ _ (Ext.refl _) y58)
    simp [execOp, go_sem, hρ (.tmp 58)]
   |11, _ =>
    refine so rfl ?_
    intro fb wi hx hb hd K hK
    have y59 : Fx (.int .i64 (gradedR P.es P.cs m)) (fb.eval (.tmp 59)) wi := hd 9 59 rfl (by kernel_rfl)
    refine step_valR (wanted_all rfl) (v := fb.eval (.tmp 59)) (w' := wi) (fun ρ hρ hc => ?_) (hK _ _ (Ext.refl _) y59)
    simp [execOp, go_sem, hρ (.tmp 59)]
   |n + 12, hn => exact absurd hn (by omega)
  ·skip
   simp only [frOf, putAll, List.drop_succ_cons, List.drop_zero, List.setIfInBounds_toArray, List.set_cons_succ, List.set_cons_zero, Nat.zero_add, Nat.reduceAdd]
   have t11 : IsGe W2.heap.size (gradedR P.es P.cs m) (gradedE P.es P.cs m) (xs 10) w1 := hT 10 (by decide)
   have t12 : xs 11 = .int .i64 (gradedR P.es P.cs m) := hT 11 (by decide)
   rw [t12]
   obtain ⟨v11, hv11⟩ : ∃ v, v = xs 10 := ⟨_, rfl⟩
   rw [← hv11] at t11 ⊢
   clear hv11 t12
   have HT11 := Lib.hid t11
   have HX3 := Lib.hid hx
   obtain ⟨rc, hrb, hrl⟩ := HR0.out
   match rc, hrl with
   |[r0, r1, r2, r3, r4, r5, r6], _ =>
   have HRB := Lib.hid (((hrb.ext HX1.out).ext HX2.out).ext HX3.out)
   obtain ⟨e0, e1, e2, e3, e4, e5, e6⟩ := blk7 HRB.out
   obtain ⟨d0, d1, d2, d3, d4, d5, d6⟩ := blk7 (HB2.out.ext HX3.out)
   have f0 := HRB.out.frozen 0; have f1 := HRB.out.frozen 1; have f2 := HRB.out.frozen 2; have f3 := HRB.out.frozen 3; have f4 := HRB.out.frozen 4; have f5 := HRB.out.frozen 5; have f6 := HRB.out.frozen 6
   obtain ⟨R, hR⟩ : ∃ R, R = gradedR P.es P.cs m := ⟨_, rfl⟩
   rw [← hR]
   have HRR := Lib.hid hR
   have HB4 := Lib.hid (HB2.out.ext HX3.out)
   have HGN : Hid (w.heap.size + 1 < wA.heap.size) := by
    have h1 := hrb.lt; have h2 := HX1.out.size
    show _ < _
    omega
   have hne : ¬ g = w.heap.size + 1 := by have := HGN.out; omega
   clear hR hT t11 hx hrb
   go_upto_region 8 with fail
   refine region_slotsR (l := 5) (N := 63) (W0 := w1) (olR (w.heap.size + 1)) [60, 61, 62, 6, 1000] (olT (w.heap.size + 1) v11 R pnm pAE pAN pAC pAW pnE pcE pnN pcN pnC pcC pnW pcW pgr pmt) (by kernel_rfl) (by kernel_rfl) (by kernel_rfl) (by kernel_rfl) ⟨(Kept.refl _ _).drew, fun h => h⟩ (fun _ _ _ h1 h2 => ⟨h1.1.trans h2.1, fun h => h2.2 (h1.2 h)⟩) (fun i hi => ?_) ?_
   ·match i, hi with
    |0, _ =>
     refine so rfl ?_
     intro b xs W hR hb hv hd K hK
     have e1 : b.eval (.tmp 11) = v11 := hb 11 (by kernel_rfl)
     refine step_valR (wanted_all rfl) (v := v11) (w' := W) (fun ρ hρ hc => ?_) (hK _ _ (olR_refl _ _) (fun _ _ _ h => h) rfl)
     have re1 := (hρ (.tmp 11)).trans e1
     simp [execOp, go_sem, re1]
    |1, _ =>
     refine so rfl ?_
     intro b xs W hR hb hv hd K hK
     have e1 : b.eval (.tmp 10) = .pointer (some ⟨g, 0, none⟩) := hb 10 (by kernel_rfl)
     obtain ⟨a0, a1, a2, a3, a4, a5, a6⟩ := blk7 (hR.1.blk HB4.out hne)
     refine step_valR (wanted_all rfl) (v := .agg #[.string pnm, .slice pAE pnE pcE, .int .i64 pgr, .slice pAN pnN pcN, .slice pAC pnC pcC, .slice pAW pnW pcW, .bool pmt]) (w' := W) (fun ρ hρ hc => ?_) (hK _ _ (olR_refl _ _) (fun _ _ _ h => h) rfl)
     have re1 := (hρ (.tmp 10)).trans e1
     simp [execOp, go_sem, re1, a0, a1, a2, a3, a4, a5, a6]
    |2, _ =>
     refine so rfl ?_
     intro b xs W hR hb hv hd K hK
     have e1 : b.eval (.tmp 12) = .int .i64 R := hb 12 (by kernel_rfl)
     refine step_valR (wanted_all rfl) (v := .int .i64 R) (w' := W) (fun ρ hρ hc => ?_) (hK _ _ (olR_refl _ _) (fun _ _ _ h => h) rfl)
     have re1 := (hρ (.tmp 12)).trans e1
     simp [execOp, go_sem, re1]
    |3, _ =>
     refine so rfl ?_
     intro b xs W hR hb hv hd K hK
     have e1 : b.eval (.tmp 60) = v11 := (hv 0 60 rfl (by omega)).trans (hd 0 (by kernel_rfl))
     refine step_valR (wanted_all rfl) (v := v11) (w' := W) (fun ρ hρ hc => ?_) (hK _ _ (olR_refl _ _) (fun _ _ _ h => h) rfl)
     have re1 := (hρ (.tmp 60)).trans e1
     simp [execOp, go_sem, re1]
    |4, _ =>
     refine so rfl ?_
     intro b xs W hR hb hv hd K hK
     have e1 : b.eval (.tmp 7) = .pointer (some ⟨w.heap.size + 1, 0, none⟩) := hb 7 (by kernel_rfl)
     have e2 : b.eval (.tmp 61) = .agg #[.string pnm, .slice pAE pnE pcE, .int .i64 pgr, .slice pAN pnN pcN, .slice pAC pnC pcC, .slice pAW pnW pcW, .bool pmt] := (hv 1 61 rfl (by omega)).trans (hd 1 (by kernel_rfl))
     have hhp : HasP W (w.heap.size + 1) := hR.2 ⟨_, _, _, _, _, _, _, HRB.out⟩
     obtain ⟨z0, z1, z2, z3, z4, z5, z6, hz⟩ := hR.2 ⟨_, _, _, _, _, _, _, HRB.out⟩
     obtain ⟨s0, s1, s2, s3, s4, s5, s6⟩ := blk7 hz
     have f0 := hz.frozen 0; have f1 := hz.frozen 1; have f2 := hz.frozen 2; have f3 := hz.frozen 3; have f4 := hz.frozen 4; have f5 := hz.frozen 5; have f6 := hz.frozen 6
     refine step_skipR (wanted_all rfl) (w' := putP W (w.heap.size + 1) (.string pnm) (.slice pAE pnE pcE) (.int .i64 pgr) (.slice pAN pnN pcN) (.slice pAC pnC pcC) (.slice pAW pnW pcW) (.bool pmt)) (fun ρ hρ hc => ?_) (hK _ _ ⟨kept_put7 _ _ _ _ _ _ _, fun _ => ⟨_, _, _, _, _, _, _, Blk.put7 hhp _ _ _ _ _ _ _⟩⟩ (fun j u hj h => olT_ne hj h) (Blk.put7 hhp _ _ _ _ _ _ _))
     have re1 := (hρ (.tmp 7)).trans e1; have re2 := (hρ (.tmp 61)).trans e2
     simp [execOp, go_sem, re1, re2, s0, s1, s2, s3, s4, s5, s6, f0, f1, f2, f3, f4, f5, f6, putP]
    |n + 5, hn => exact absurd hn (by omega)
   refine so rfl ?_
   intro xs w3 hR hT b hb1 hb hv K hK
   have e1 : b.eval (.tmp 62) = .int .i64 R := (hv 2 62 rfl (by omega)).trans (hT 2 (by decide))
   refine step_valR (wanted_all rfl) (v := .int .i64 R) (w' := w3) (fun ρ hρ hc => ?_) ?_
   ·have re1 := (hρ (.tmp 62)).trans e1
    simp [execOp, go_sem, re1]
   refine hK _ _ ?_
   have q3 : xs 3 = v11 := hT 3 (by decide)
   have HB5 := Lib.hid (show Blk 40 w3 (w.heap.size + 1) _ from hT 4 (by decide))
   have HKP := Lib.hid hR.1
   have HX5 : Hid (Ext w w3) := hR.1.ext ((HXW.out.trans HX2.out).trans HX3.out) (fun k e => by subst e; omega)
   subst hb1
   clear hK K hb hv e1 hT hR
   simp only [Act.put, frOf, putAll, List.setIfInBounds_toArray, List.set_cons_succ, List.set_cons_zero, List.set_nil, Nat.zero_add, Nat.reduceAdd, q3]
   clear q3
   obtain ⟨y0, hy0⟩ : ∃ y, y = xs 0 := ⟨_, rfl⟩
   obtain ⟨y1, hy1⟩ : ∃ y, y = xs 1 := ⟨_, rfl⟩
   obtain ⟨y2, hy2⟩ : ∃ y, y = xs 2 := ⟨_, rfl⟩
   rw [← hy0, ← hy1, ← hy2]
   clear hy0 hy1 hy2
   clear xs
   obtain ⟨a0, a1, a2, a3, a4, a5, a6⟩ := blk7 HB5.out
   go_wp2_with fail
   refine bodyPost_ret (v := .tuple #[v11, .agg #[.string pnm, .slice pAE pnE pcE, .int .i64 pgr, .slice pAN pnN pcN, .slice pAC pnC pcC, .slice pAW pnW pcW, .bool pmt], .int .i64 R]) (by simp [results, Tryz.results29, go_sem, a0, a1, a2, a3, a4, a5, a6]) rfl ?_
   have hlow : ∀ k, k = w.heap.size + 1 → k < W2.heap.size := fun k e => by have := HGN.out; have := HX2.out.size; omega
   have hbs : w.heap.size ≤ W2.heap.size := by have := HGN.out; have := HX2.out.size; omega
   rw [← HPP.out, ← HMM.out]
   refine ⟨v11, ⟨pnm, pAE, pnE, pcE, pgr, pAN, pnN, pcN, pAC, pnC, pcC, pAW, pnW, pcW, pmt⟩, by rw [HRR.out], HQ0.out.ext HX5.out, fun h0 => ((HT11.out.1 h0).low HKP.out hlow).base_le hbs, fun h0 => HT11.out.2 h0, HX5.out⟩
def RetSh (w : World) (e : Ending) (w' : World) : Prop := ∃ a, e = .returned (StyA.val a) ∧ StyXAt w' a shX ∧ Ext w w'
set_option maxRecDepth 100000 in
set_option maxHeartbeats 6400000 in
theorem shirt_any (w : World) : Calls Tryz.prog 23 #[] w (RetSh w) := by
 go_enter Tryz.func23, Tryz.ntmps23
 go_wp2_with fail
 refine (sides_any 10 8 _).mono ?_
 rintro e w1 ⟨gE, g1, g2, g3, g4, rfl, hrc, he⟩
 have hR1 : Blk 29 w1 w.heap.size [.string ⟨#[]⟩, .slice none 0 0, .slice none 0 0, .slice none 0 0, .slice none 0 0, .slice none 0 0, .slice none 0 0] := (Blk.new' rfl).ext he
 have hX1 : Ext w w1 := ((Ext.refl _).alloc _).trans he
 have HX1 := Lib.hid hX1; have HR1 := Lib.hid hR1; have HRC := Lib.hid hrc
 clear he hrc hR1 hX1
 go_upto_region 2 with fail
 refine wp_at fun W2 hW2 => ?_
 have HR2 : Hid (Blk 29 W2 w.heap.size [.string ⟨#[]⟩, .slice none 0 0, .slice none 0 0, .slice none 0 0, .slice none 0 0, .slice none 0 0, .slice none 0 0]) := by show Blk _ _ _ _; rw [hW2]; exact HR1.out.ext ((((Ext.refl _).alloc _).alloc _).alloc _)
 have HSH : Hid (ShB W2 gE g1 g2 g3 g4 w1.heap.size (w1.heap.size + 1)) := by
  show ShB _ _ _ _ _ _ _ _
  rw [hW2]
  exact ⟨HRC.out.ext ((((Ext.refl _).alloc _).alloc _).alloc _), (Blk.new' (by simp)).ext (((Ext.refl _).alloc _).alloc _), (Blk.new' (by simp)).ext ((Ext.refl _).alloc _)⟩
 have HPB : Hid (Blk 40 W2 (w1.heap.size + 1 + 1) (shA gE w1.heap.size (w1.heap.size + 1)).cells) := by show Blk _ _ _ _; rw [hW2]; exact Blk.new' (by simp)
 have HX2 : Hid (Ext w W2) := by show Ext _ _; rw [hW2]; exact ((HX1.out.alloc _).alloc _).alloc _
 clear hW2 HR1 HRC HX1
 obtain ⟨gC, hgC⟩ : ∃ g, g = w1.heap.size := ⟨_, rfl⟩
 rw [← hgC] at HSH HPB ⊢
 clear hgC
 obtain ⟨a0, a1, a2, a3, a4, a5, a6⟩ := blk7 HPB.out
 obtain ⟨s0, s1, s2, s3, s4, s5, s6⟩ := blk7 HR2.out
 have f0 := HR2.out.frozen 0; have f1 := HR2.out.frozen 1; have f2 := HR2.out.frozen 2; have f3 := HR2.out.frozen 3; have f4 := HR2.out.frozen 4; have f5 := HR2.out.frozen 5; have f6 := HR2.out.frozen 6
 have hl := HR2.out.lt
 have hl5 := HPB.out.lt
 have hl1 : w.heap.size < W2.heap.size + 1 := by omega
 have hl2 : w.heap.size < W2.heap.size + 1 + 1 := by omega
 have hl3 : w.heap.size < W2.heap.size + 1 + 1 + 1 := by omega
 have hm1 : gC + 1 + 1 < W2.heap.size + 1 := by omega
 have hm2 : gC + 1 + 1 < W2.heap.size + 1 + 1 := by omega
 have hn0 : ¬ w.heap.size = W2.heap.size := by omega
 have hn1 : ¬ w.heap.size = W2.heap.size + 1 := by omega
 have hn2 : ¬ w.heap.size = W2.heap.size + 1 + 1 := by omega
 have hn3 : ¬ w.heap.size = W2.heap.size + 1 + 1 + 1 := by omega
 simp only [shA] at a0 a1 a2 a3 a4 a5 a6
 go_wp2_with fail
 obtain ⟨w5, hw5⟩ : ∃ w5, w5 = ((((((W2.setCell ⟨w.heap.size, 0, none⟩ (.string ⟨#[115, 104, 105, 114, 116]⟩)).setCell ⟨w.heap.size, 1, none⟩ (.slice (some ⟨W2.heap.size, 0, none⟩) 2 2)).setCell ⟨w.heap.size, 2, none⟩ (.slice (some ⟨W2.heap.size + 1, 0, none⟩) 2 2)).setCell ⟨w.heap.size, 3, none⟩ (.slice (some ⟨W2.heap.size + 1 + 1, 0, none⟩) 1 1)).setCell ⟨w.heap.size, 4, none⟩ (.slice (some ⟨W2.heap.size + 1 + 1 + 1, 0, none⟩) 1 1)).setCell ⟨w.heap.size, 5, none⟩ (.slice none 0 0)).setCell ⟨w.heap.size, 6, none⟩ (.slice none 0 0) := ⟨_, rfl⟩
 rw [← hw5]
 have hB5 : Blk 29 w5 w.heap.size [.string ⟨#[115, 104, 105, 114, 116]⟩, .slice (some ⟨W2.heap.size, 0, none⟩) 2 2, .slice (some ⟨W2.heap.size + 1, 0, none⟩) 2 2, .slice (some ⟨W2.heap.size + 1 + 1, 0, none⟩) 1 1, .slice (some ⟨W2.heap.size + 1 + 1 + 1, 0, none⟩) 1 1, .slice none 0 0, .slice none 0 0] := by
  rw [hw5]; exact ((((((HR2.out.set 0 _).set 1 _).set 2 _).set 3 _).set 4 _).set 5 _).set 6 _
 have hk5 : Kept (fun k => k = w.heap.size) W2 w5 := by
  rw [hw5]; exact kset (kset (kset (kset (kset (kset (kset (Kept.refl _ _) _ _) _ _) _ _) _ _) _ _) _ _) _ _
 have hsz : w5.heap.size = W2.heap.size := by rw [hw5]; simp [World.setCell]
 have hSh5 := HSH.out.kept 29 hk5 (by decide) (by decide) (by decide) (fun g e => by subst e; exact ⟨_, HR2.out⟩)
 have hX5 : Ext w w5 := hk5.ext HX2.out (fun k e => by omega)
 clear hw5 s0 s1 s2 s3 s4 s5 s6 a0 a1 a2 a3 a4 a5 a6 f0 f1 f2 f3 f4 f5 f6
 obtain ⟨s0, s1, s2, s3, s4, s5, s6⟩ := blk7 hB5
 rw [← hsz] at s1 s2 s3 s4 hl hl1 hl2 hl3 hn0 hn1 hn2 hn3 ⊢
 clear hB5 hk5 hsz hl5 hm1 hm2
 refine bodyPost_ret (v := StyA.val ⟨shirtN, some ⟨w5.heap.size, 0, none⟩, 2, 2, some ⟨w5.heap.size + 1, 0, none⟩, 2, 2, some ⟨w5.heap.size + 1 + 1, 0, none⟩, 1, 1, some ⟨w5.heap.size + 1 + 1 + 1, 0, none⟩, 1, 1, none, 0, 0, none, 0, 0⟩) (by simp [results, Tryz.results23, go_sem, s0, s1, s2, s3, s4, s5, s6, hl, hl1, hl2, hl3, hn0, hn1, hn2, hn3, StyA.val, shirtN]) rfl ?_
 refine ⟨_, rfl, ?_, (((hX5.alloc _).alloc _).alloc _).alloc _⟩
 exact sh_sty (hSh5.ext ((((Ext.refl _).alloc _).alloc _).alloc _ |>.alloc _)) ((Blk.new' rfl).ext (((Ext.refl _).alloc _).alloc _ |>.alloc _)) ((Blk.new' (by simp)).ext (((Ext.refl _).alloc _).alloc _)) ((Blk.new' (by simp)).ext ((Ext.refl _).alloc _)) (Blk.new' (by simp))
def cutE (p : Pc) (m : Int) : Int := if gradedR p.es p.cs m ≠ 0 then gradedR p.es p.cs m else alE (gradedE p.es p.cs m) p.ws
def RetCut (w : World) (p : Pc) (m : Int) (e : Ending) (w' : World) : Prop := ∃ v, e = .returned (.tuple #[v, .int .i64 (cutE p m)]) ∧ (cutE p m = 0 → OwnS w' w.heap.size v (ptsA (gradedE p.es p.cs m) p.ws)) ∧ (cutE p m ≠ 0 → v = .slice none 0 0) ∧ Ext w w'
/- what Allow wants of a graded outline -/
structure CutOk (p : Pc) (m : Int) : Prop where
 o : ocheck (gradedE p.es p.cs m) = 0
 w : WOk p.ws
 v : VOk (verts (gradedE p.es p.cs m))
 a : AOk (gradedE p.es p.cs m) p.ws
set_option maxRecDepth 100000 in
set_option maxHeartbeats 3200000 in
theorem cut_any (a : StyA) (x : StyX) (sz us pi : Nat) (w : World) (hs : StyXAt w a x) (hN : x.sz.length ≤ 1000) (hZ : ∀ k, k < x.sz.length → (gB x.sz k).size ≤ 1000) (hok : styE x = 0) (hsz : sz < x.sz.length) (hlm : x.ms.length = x.sz.length) (hus : us < x.us.length) (hpi : (gU x.us us).pc = (pi : Int)) (hpl : pi < x.ps.length)
  (hw : (gPx x.ps pi).p.ws.length = (gPx x.ps pi).p.es.length) (hA : gradedR (gPx x.ps pi).p.es (gPx x.ps pi).p.cs (gI x.ms sz) = 0 → CutOk (gPx x.ps pi).p (gI x.ms sz)) :
  Calls Tryz.prog 9 #[a.val, .int .i64 (sz : Int), .int .i64 (us : Int)] w (RetCut w (gPx x.ps pi).p (gI x.ms sz)) := by
 have HOL := Lib.hid (fun W (h : Ext w W) => outlineOf_any a x sz us pi W (hs.ext h) hN hZ hok hsz hlm hus hpi hpl)
 obtain ⟨P, hP⟩ : ∃ P, P = (gPx x.ps pi).p := ⟨_, rfl⟩
 obtain ⟨m, hm⟩ : ∃ m, m = gI x.ms sz := ⟨_, rfl⟩
 rw [← hP, ← hm] at HOL hA ⊢
 rw [← hP] at hw
 have HAO := Lib.hid hA; have HW := Lib.hid hw
 clear hs hN hZ hok hsz hlm hus hpi hpl hA hw hP hm
 obtain ⟨nm, AS, nS, cS, AM, nM, cM, AP, nP, cP, AU, nU, cU, AK, nK, cK, AO, nO, cO⟩ := a
 simp only [StyA.val] at HOL ⊢
 go_enter Tryz.func9, Tryz.ntmps9
 go_wp2_with fail
 refine (HOL.out _ ((Ext.refl _).alloc _)).mono ?_
 rintro e w1 ⟨v, pa, rfl, hp, h0, h1, he⟩
 have HX1 := Lib.hid (((Ext.refl w).alloc _).trans he)
 have HP1 := Lib.hid hp
 have HE1 := Lib.hid h0
 clear he hp h0
 obtain ⟨R, hR⟩ : ∃ R, R = gradedR P.es P.cs m := ⟨_, rfl⟩
 rw [← hR] at h1 HE1 HAO ⊢
 have HR := Lib.hid hR
 have HV1 := Lib.hid h1
 clear hR h1
 obtain ⟨pnm, pAE, pnE, pcE, pgr, pAN, pnN, pcN, pAC, pnC, pcC, pAW, pnW, pcW, pmt⟩ := pa
 by_cases hz : R = 0
 rotate_left
 ·have hzb : (R != 0) = true := by simp [hz]
  have HZ := Lib.hid hz
  clear hz
  go_wp2_with fail
  go_ret2
  have hc : cutE P m = R := by unfold cutE; rw [← HR.out, if_pos HZ.out]
  exact ⟨_, by rw [hc]; rfl, fun h => absurd (hc.symm.trans h) HZ.out, fun _ => rfl, HX1.out.alloc _⟩
 ·subst hz
  have HE2 := HE1.out rfl
  obtain ⟨A, cap, hv, hA1, hA2, hA3⟩ := HE2.slice
  have HVE := Lib.hid hv
  have HEA := Lib.hid hA1
  have hc : cutE P m = alE (gradedE P.es P.cs m) P.ws := by unfold cutE; rw [← HR.out, if_neg (by simp)]
  have HC := Lib.hid hc
  clear hv hA1 HE2 hc
  have hco := HAO.out rfl
  have HCO := Lib.hid hco
  clear hco
  obtain rfl : pnW = (gradedE P.es P.cs m).length := by rw [gradedE_len, ← HW.out]; exact HP1.out.li.symm
  rw [HVE.out]
  go_wp2_with fail
  have hx2 : Ext w1 (w1.alloc (.cells #[.string pnm, .slice pAE pnE pcE, .int .i64 pgr, .slice pAN pnN pcN, .slice pAC pnC pcC, .slice pAW (gradedE P.es P.cs m).length pcW, .bool pmt] 40)) := (Ext.refl _).alloc _
  refine (allow_any A pAW (gradedE P.es P.cs m).length cap pcW (gradedE P.es P.cs m) P.ws _ (HEA.out.ext hx2) rfl hA2 hA3 (HP1.out.i.ext hx2) HP1.out.li HCO.out.o HCO.out.w HCO.out.v HCO.out.a).mono ?_
  rintro e w2 ⟨v2, rfl, h0, h1, he⟩
  have H0 := Lib.hid h0; have H1 := Lib.hid h1; have HX2 := Lib.hid (hx2.trans he)
  have HS := Lib.hid (Nat.le_trans HX1.out.size hx2.size)
  clear h0 h1 he hx2
  go_wp2_with fail
  go_ret2
  refine ⟨v2, by rw [HC.out]; rfl, fun h => own_base_le (H0.out (HC.out.symm.trans h)) HS.out, fun h => H1.out (fun e => h (HC.out.trans e)), HX1.out.trans HX2.out⟩
theorem take_same_succ' {l m : List Spot} {k : Nat} (hl : k < l.length) (hm : k < m.length) (h : l.take k = m.take k) (he : l[k] = m[k]) : l.take (k + 1) = m.take (k + 1) := by
 rw [take_succ _ _ hl, take_succ _ _ hm, h, he]
set_option maxHeartbeats 400000 in
theorem topSame_len (A B : Option Addr) (n c d : Nat) (l m : List Spot) (w : World) (ha : SpotsAt w A l) (hb : SpotsAt w B m) (hl : l.length = n) (hm : m.length = n) (hn : n ≤ 9223372036854775807) :
  Calls Tryz.prog 12 #[.slice A n c, .slice B n d] w fun e w' => e = .returned (.bool (decide (l = m))) ∧ Ext w w' := by
 have HL := Lib.hid hl; clear hl
 have HM := Lib.hid hm; clear hm
 have HA := Lib.hid ha; clear ha
 have HB := Lib.hid hb; clear hb
 go_enter Tryz.func12, Tryz.ntmps12
 go_wp2
 go_loopw [5] (fun i wr => ∃ k : Nat, k ≤ n ∧ i = .int .i64 k ∧ l.take k = m.take k ∧ ∃ q, wr = w.drewN q) (fun i _ => n - (intOf i).toNat)
 case atStart => exact ⟨0, Nat.zero_le _, rfl, rfl, 0, rfl⟩
 case round =>
  obtain ⟨k, hk, rfl, ht, q, rfl⟩ := hrel
  have HT := Lib.hid ht; clear ht
  by_cases hlt : k < n
  ·have hkl : k < l.length := by rw [HL.out]; exact hlt
   have hkm : k < m.length := by rw [HM.out]; exact hlt
   obtain ⟨b, off, rfl, hc0, hc1⟩ := HA.out k hkl
   obtain ⟨b', off', rfl, hd0, hd1⟩ := HB.out k hkm
   by_cases heq : l[k] = m[k]
   ·have hq : eqS l[k].1 l[k].2 m[k].1 m[k].2 = true := (eqS_iff _ _).2 heq
    have HE := Lib.hid heq; clear heq
    go_wp2
    go_quiet (fail)
    go_wp2
    go_roundw
    case rel => exact ⟨k + 1, by omega, by go_num, take_same_succ' hkl hkm HT.out HE.out, _, rfl⟩
    case measure => simp [intOf]; omega
   ·have hq : eqS l[k].1 l[k].2 m[k].1 m[k].2 = false := by rw [Bool.eq_false_iff]; intro h; exact heq ((eqS_iff _ _).1 h)
    have HE := Lib.hid heq; clear heq
    go_wp2
    go_quiet (fail)
    go_wp2
    go_ret
    exact ⟨ret_bool (by symm; rw [decide_eq_false_iff_not]; rintro rfl; exact HE.out rfl), Ext.drewN (Ext.drewN (Ext.refl _) _) _⟩
  ·go_wp2
   go_ret
   exact ⟨ret_bool (by
    have h := HT.out
    rw [List.take_of_length_le (by rw [HL.out]; omega), List.take_of_length_le (by rw [HM.out]; omega)] at h
    simp [h]), Ext.drewN (Ext.refl _) _⟩
theorem sh_c0 : CutOk shP 0 := ⟨by rw [sh_e0]; exact sh_o0, sh_w, by rw [sh_e0]; exact sh_V0, by rw [sh_e0]; exact sh_A0⟩
theorem sh_c2 : CutOk shP 2 := ⟨by rw [sh_e2]; exact sh_o2, sh_w, by rw [sh_e2]; exact sh_V2, by rw [sh_e2]; exact sh_A2⟩
theorem sh_cut0 : cutE shP 0 = 0 ∧ ptsA (gradedE shP.es shP.cs 0) shP.ws = cut0 := by
 unfold cutE
 rw [if_neg (by rw [sh_g0]; simp), sh_e0]
 exact ⟨sh_a0, sh_p0⟩
theorem sh_cut2 : cutE shP 2 = 0 ∧ ptsA (gradedE shP.es shP.cs 2) shP.ws = cut2 := by
 unfold cutE
 rw [if_neg (by rw [sh_g2]; simp), sh_e2]
 exact ⟨sh_a2, sh_p2⟩
def RetCt (w : World) (l : List Spot) (e : Ending) (w' : World) : Prop := ∃ A c, e = .returned (.tuple #[.slice A 4 c, .int .i64 0]) ∧ SpotsAt w' A l ∧ 4 ≤ c ∧ Ext w w'
theorem ct_0 (a : StyA) (w : World) (hs : StyXAt w a shX) : Calls Tryz.prog 9 #[a.val, .int .i64 0, .int .i64 0] w (RetCt w cut0) :=
 (cut_any a shX 0 0 0 w hs sh_sz sh_zz sh_sty0 (by decide) rfl (by decide) rfl (by decide) rfl (fun _ => sh_c0)).mono fun e w' h => by
  obtain ⟨v, rfl, h0, h1, he⟩ := h
  have hc : cutE shP 0 = 0 := sh_cut0.1
  have ho := h0 hc
  obtain ⟨A, c, hv, hA, hn, hc'⟩ := OwnS.slice ho
  subst hv
  have hp : ptsA (gradedE shP.es shP.cs 0) shP.ws = cut0 := sh_cut0.2
  have hA' : SpotsAt w' A (ptsA (gradedE shP.es shP.cs 0) shP.ws) := hA
  have hl : (ptsA (gradedE shP.es shP.cs 0) shP.ws).length = 4 := by rw [hp]; rfl
  rw [hp] at hA'
  refine ⟨A, c, ?_, hA', ?_, he⟩
  ·show Ending.returned (.tuple #[.slice A (ptsA (gradedE shP.es shP.cs 0) shP.ws).length c, .int .i64 (cutE shP 0)]) = _
   rw [hc, hl]
  ·have hn' : (ptsA (gradedE shP.es shP.cs 0) shP.ws).length ≤ c := hn
   omega
theorem ct_2 (a : StyA) (w : World) (hs : StyXAt w a shX) : Calls Tryz.prog 9 #[a.val, .int .i64 1, .int .i64 0] w (RetCt w cut2) :=
 (cut_any a shX 1 0 0 w hs sh_sz sh_zz sh_sty0 (by decide) rfl (by decide) rfl (by decide) rfl (fun _ => sh_c2)).mono fun e w' h => by
  obtain ⟨v, rfl, h0, h1, he⟩ := h
  have hc : cutE shP 2 = 0 := sh_cut2.1
  have ho := h0 hc
  obtain ⟨A, c, hv, hA, hn, hc'⟩ := OwnS.slice ho
  subst hv
  have hp : ptsA (gradedE shP.es shP.cs 2) shP.ws = cut2 := sh_cut2.2
  have hA' : SpotsAt w' A (ptsA (gradedE shP.es shP.cs 2) shP.ws) := hA
  have hl : (ptsA (gradedE shP.es shP.cs 2) shP.ws).length = 4 := by rw [hp]; rfl
  rw [hp] at hA'
  refine ⟨A, c, ?_, hA', ?_, he⟩
  ·show Ending.returned (.tuple #[.slice A (ptsA (gradedE shP.es shP.cs 2) shP.ws).length c, .int .i64 (cutE shP 2)]) = _
   rw [hc, hl]
  ·have hn' : (ptsA (gradedE shP.es shP.cs 2) shP.ws).length ≤ c := hn
   omega
theorem nm_l {l : List Spot} (A : Option Addr) (c : Nat) (w : World) (hl : l.length = 4) (hn : normP l = l ∧ pcheck l = 0 ∧ 0 ≤ areaTo l 4 ∧ cornT l 4 ≠ []) (ha : SpotsAt w A l) (hc : 4 ≤ c) :
  Calls Tryz.prog 10 #[.slice A 4 c] w (RetCt w l) :=
 (normal_any A 4 c l w ha hl hc (fun _ => hn.2.2.1) (fun _ => hn.2.2.2)).mono fun e w' h => by
  obtain ⟨v, rfl, h0, h1, he⟩ := h
  have ho := h0 hn.2.1
  rw [hn.1] at ho
  obtain ⟨A', c', hv, hA, hn', hc'⟩ := OwnS.slice ho
  subst hv
  refine ⟨A', c', ?_, hA, ?_, he⟩
  ·rw [hn.2.1, hl]
  ·omega
set_option maxRecDepth 100000 in
set_option maxHeartbeats 6400000 in
theorem patterns_any (w : World) : Calls Tryz.prog 7 #[] w fun e w' => e = .returned (.bool true) ∧ Ext w w' := by
 go_enter Tryz.func7, Tryz.ntmps7
 go_wp2_with fail
 refine (shirt_any _).mono ?_
 rintro e w1 ⟨a, rfl, ha, he⟩
 have HA := Lib.hid ha; have HX1 := Lib.hid he
 clear ha he
 obtain ⟨nm, AS, nS, cS, AM, nM, cM, AP, nP, cP, AU, nU, cU, AK, nK, cK, AO, nO, cO⟩ := a
 have HC0 := Lib.hid (fun W (h : Ext w1 W) => ct_0 _ W (HA.out.ext h))
 have HC2 := Lib.hid (fun W (h : Ext w1 W) => ct_2 _ W (HA.out.ext h))
 simp only [StyA.val] at HC0 HC2 ⊢
 clear HA
 go_upto_region 2 with fail
 refine wp_at fun W0 hW0 => ?_
 have HB0 : Hid (Blk 29 W0 w1.heap.size [.string nm, .slice AS nS cS, .slice AM nM cM, .slice AP nP cP, .slice AU nU cU, .slice AK nK cK, .slice AO nO cO]) := by show Blk _ _ _ _; rw [hW0]; exact Blk.new' rfl
 have HX0 : Hid (Ext w1 W0) := by show Ext _ _; rw [hW0]; exact (Ext.refl _).alloc _
 clear hW0
 obtain ⟨g, hg⟩ : ∃ g, g = w1.heap.size := ⟨_, rfl⟩
 rw [← hg] at HB0 ⊢
 clear hg
 obtain ⟨c0, c1, c2, c3, c4, c5, c6⟩ := blk7 HB0.out
 go_wp2_with fail
 refine (HC0.out _ HX0.out).mono ?_
 rintro e w2 ⟨A2, k2, rfl, h2, hk2, he2⟩
 have HX2 := Lib.hid he2; have H2 := Lib.hid h2
 clear he2 h2 c0 c1 c2 c3 c4 c5 c6
 obtain ⟨c0, c1, c2, c3, c4, c5, c6⟩ := blk7 (HB0.out.ext HX2.out)
 go_wp2_with fail
 refine (HC2.out _ (HX0.out.trans HX2.out)).mono ?_
 rintro e w3 ⟨A3, k3, rfl, h3, hk3, he3⟩
 have HX3 := Lib.hid he3; have H3 := Lib.hid h3
 clear he3 h3 c0 c1 c2 c3 c4 c5 c6
 go_wp2_with fail
 refine (nm_l A2 k2 w3 rfl cut_n0 (H2.out.ext HX3.out) hk2).mono ?_
 rintro e w4 ⟨A4, k4, rfl, h4, hk4, he4⟩
 have HX4 := Lib.hid he4; have H4 := Lib.hid h4
 clear he4 h4
 go_wp2_with fail
 refine (nm_l A3 k3 w4 rfl cut_n2 (H3.out.ext HX4.out) hk3).mono ?_
 rintro e w5 ⟨A5, k5, rfl, h5, hk5, he5⟩
 have HX5 := Lib.hid he5; have H5 := Lib.hid h5
 clear he5 h5
 go_wp2_with fail
 have hb1 : SpotsAt (w5.alloc (.cells #[.int .i64 0, .int .i64 0, .int .i64 11, .int .i64 0, .int .i64 11, .int .i64 8, .int .i64 0, .int .i64 8] 49)) (some ⟨w5.heap.size, 0, none⟩) cut0 := spots_blk (t := 49) (Blk.new' (by simp [cut0, scells]))
 refine (topSame_len A4 (some ⟨w5.heap.size, 0, none⟩) 4 k4 4 cut0 cut0 _ (H4.out.ext (HX5.out.trans ((Ext.refl _).alloc _))) hb1 rfl rfl (by omega)).mono ?_
 rintro e w6 ⟨rfl, he6⟩
 have HX6 : Hid (Ext w5 w6) := ((Ext.refl _).alloc _).trans he6
 have hd : decide (cut0 = cut0) = true := by decide
 rw [hd]
 clear he6 hb1 hd
 go_wp2_with fail
 have hb1 : SpotsAt (w6.alloc (.cells #[.int .i64 0, .int .i64 0, .int .i64 13, .int .i64 0, .int .i64 13, .int .i64 8, .int .i64 0, .int .i64 8] 49)) (some ⟨w6.heap.size, 0, none⟩) cut2 := spots_blk (t := 49) (Blk.new' (by simp [cut2, scells]))
 refine (topSame_len A5 (some ⟨w6.heap.size, 0, none⟩) 4 k5 4 cut2 cut2 _ (H5.out.ext (HX6.out.trans ((Ext.refl _).alloc _))) hb1 rfl rfl (by omega)).mono ?_
 rintro e w7 ⟨rfl, he7⟩
 have HX7 : Hid (Ext w6 w7) := ((Ext.refl _).alloc _).trans he7
 have hd : decide (cut2 = cut2) = true := by decide
 rw [hd]
 clear he7 hb1 hd
 go_wp2_with fail
 go_ret
 exact ⟨rfl, (((((HX1.out.trans HX0.out).trans HX2.out).trans HX3.out).trans HX4.out).trans HX5.out).trans (HX6.out.trans HX7.out)⟩
end Go.Proofs.YtfegbaokcbjllaaGreat
