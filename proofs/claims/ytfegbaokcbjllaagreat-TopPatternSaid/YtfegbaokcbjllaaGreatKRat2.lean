/- ratio: Of, Neg, Add, Sub, Mul, Div, Round. Written by genrat.py. -/
import Derived.Test.YtfegbaokcbjllaaGreatKRat
import Derived.Test.YtfegbaokcbjllaaGreatKTail
namespace Go.Proofs.YtfegbaokcbjllaaGreat
open Go.RowKit
/- a ratio whose parts are not too long -/
structure RB (r : Rat) : Prop where
 n : Sz 100 r.num.natAbs
 d : Sz 100 r.den
theorem RB.nl {r : Rat} (h : RB r) : (limbs r.num.natAbs).length ≤ 1000 := h.n.len (by omega)
theorem RB.dl {r : Rat} (h : RB r) : (limbs r.den).length ≤ 1000 := h.d.len (by omega)
set_option maxRecDepth 100000 in
set_option maxHeartbeats 3200000 in
theorem rneg_any (r : Rat) (v : Value) (w : World) (h : IsR r v w) (hb : RB r) (hd : r.den < DB) : Calls Tryz.prog 138 #[v] w (Ret (IsR (-r)) w) := by
 rw [rat_neg]
 have HV := Lib.hid (fun W (he : Ext w W) => value_any r v W (h.ext he))
 have HA := Lib.hid h
 have HRB := Lib.hid hb; have HDB := Lib.hid hd
 obtain ⟨u, d, rfl, h1, h2⟩ := h
 have HN := Lib.hid h1; have HD := Lib.hid h2
 obtain ⟨A, k, c, rfl⟩ := h1.form
 obtain ⟨A2, k2, c2, rfl⟩ := h2.form
 clear h1 h2 hb hd
 have HSG : Hid (sgI (negI r.num) r.num.natAbs = r.num) := sgI_negI _
 obtain ⟨s, hs⟩ : ∃ s, s = negI r.num := ⟨_, rfl⟩
 rw [← hs] at HV HA HSG ⊢
 clear hs
 go_enter Tryz.func138, Tryz.ntmps138
 go_wp2_with fail
 refine (HV.out _ (((Ext.refl _).alloc _).alloc _)).mono ?_
 rintro e w1 ⟨rfl, he1⟩
 have HX1 : Hid (Ext w w1) := (((Ext.refl _).alloc _).alloc _).trans he1
 have HB1 : Hid (Blk 145 w1 w.heap.size [.bool s, .slice A k c, .slice A2 k2 c2]) := ((Blk.new' rfl).ext ((Ext.refl _).alloc _)).ext he1
 have HR1 : Hid (Blk 145 w1 (w.heap.size + 1) [.bool false, .slice none 0 0, .slice none 0 0]) := (Blk.new' (by simp)).ext he1
 clear he1 HV
 have b0 := HB1.out.cell 0; have b1 := HB1.out.cell 1; have b2 := HB1.out.cell 2
 have f0 := HB1.out.frozen 0; have f1 := HB1.out.frozen 1; have f2 := HB1.out.frozen 2
 simp only [List.getElem?_cons_succ, List.getElem?_cons_zero] at b0 b1 b2
 go_upto_region 2 with fail
 refine wp_at fun W0 hW0 => ?_
 have HX0 : Hid (Ext w W0) := by show Ext _ _; rw [hW0]; exact kext HX1.out (Nat.le_refl _) (ks3 _ _ _ _ _)
 have HBW : Hid (Blk 145 W0 w.heap.size [.bool s, .slice A k c, .slice A2 k2 c2]) := by show Blk _ _ _ _; rw [hW0]; exact ((HB1.out.set 0 _).set 1 _).set 2 _
 have HRW : Hid (Blk 145 W0 (w.heap.size + 1) [.bool false, .slice none 0 0, .slice none 0 0]) := by show Blk _ _ _ _; rw [hW0]; exact (ks3 _ _ _ _ _).blk HR1.out (by simp)
 have HNW := Lib.hid (HN.out.ext HX0.out); have HDW := Lib.hid (HD.out.ext HX0.out)
 clear hW0 b0 b1 b2 f0 f1 f2 HX1 HB1 HR1
 refine region_slotsL (l := 6) (N := 11) (W0 := W0) [5, 6, 7, 8, 9, 10] [Fx (.pointer (some ⟨w.heap.size, 0, none⟩)), IsRaw s r.num.natAbs, IsZ (- sgI s r.num.natAbs), Fx (.pointer (some ⟨w.heap.size, 2, none⟩)), IsN r.den, IsR (mkRat (-r.num) r.den)] (by kernel_rfl) (by kernel_rfl) (by kernel_rfl) (by kernel_rfl) (Ext.refl _) ?kp (fun i hi => ?_) (fun xs w1 hx hT => ?_)
 case kp => exact ⟨Fx.kp _, IsRaw.kp _ _, IsZ.kp _, Fx.kp _, IsN.kp _, IsR.kp _, trivial⟩
 ·match i, hi with
  |0, _ =>
   refine so rfl ?_
   intro fb wi hx hb hd K hK
   have x1 : fb.eval (.tmp 1) = .pointer (some ⟨w.heap.size, 0, none⟩) := hb 1 rfl
   refine sv rfl (v := .pointer (some ⟨w.heap.size, 0, none⟩)) (w' := wi) (fun ρ hρ hc => ?_) (hK _ _ (Ext.refl _) (rfl))
   have r1 := (hρ (.tmp 1)).trans x1
   simp [execOp, go_sem, r1]
  |1, _ =>
   refine so rfl ?_
   intro fb wi hx hb hd K hK
   have x5 : fb.eval (.tmp 5) = .pointer (some ⟨w.heap.size, 0, none⟩) := hd 0 5 rfl (by kernel_rfl)
   have cf0 := (HBW.out.ext hx).cell 0
   have cf1 := (HBW.out.ext hx).cell 1
   simp only [List.getElem?_cons_zero, List.getElem?_cons_succ] at cf0 cf1
   refine sv rfl (v := .agg #[.bool s, .slice A k c]) (w' := wi) (fun ρ hρ hc => ?_) (hK _ _ (Ext.refl _) (⟨_, rfl, HNW.out.ext hx⟩))
   have r5 := (hρ (.tmp 5)).trans x5
   simp [execOp, go_sem, r5, cf0, cf1]
  |2, _ =>
   refine so rfl ?_
   intro fb wi hx hb hd K hK
   have y6 : IsRaw s r.num.natAbs (fb.eval (.tmp 6)) wi := hd 1 6 rfl (by kernel_rfl)
   refine sc rfl 152 [.tmp 6] #[143] rfl _ Tryz.func152 rfl (by decide +kernel) [fb.eval (.tmp 6)] rfl (ineg_any s _ _ wi y6 HRB.out.nl) (fun e w' h => rk hK h)
  |3, _ =>
   refine so rfl ?_
   intro fb wi hx hb hd K hK
   have x1 : fb.eval (.tmp 1) = .pointer (some ⟨w.heap.size, 0, none⟩) := hb 1 rfl
   refine sv rfl (v := .pointer (some ⟨w.heap.size, 2, none⟩)) (w' := wi) (fun ρ hρ hc => ?_) (hK _ _ (Ext.refl _) (rfl))
   have r1 := (hρ (.tmp 1)).trans x1
   simp [execOp, go_sem, r1]
  |4, _ =>
   refine so rfl ?_
   intro fb wi hx hb hd K hK
   have x8 : fb.eval (.tmp 8) = .pointer (some ⟨w.heap.size, 2, none⟩) := hd 3 8 rfl (by kernel_rfl)
   have cf0 := (HBW.out.ext hx).cell 2
   simp only [List.getElem?_cons_zero, List.getElem?_cons_succ] at cf0
   refine sv rfl (v := .slice A2 k2 c2) (w' := wi) (fun ρ hρ hc => ?_) (hK _ _ (Ext.refl _) (HDW.out.ext hx))
   have r8 := (hρ (.tmp 8)).trans x8
   simp [execOp, go_sem, r8, cf0]
  |5, _ =>
   refine so rfl ?_
   intro fb wi hx hb hd K hK
   have y7 : IsZ (- sgI s r.num.natAbs) (fb.eval (.tmp 7)) wi := hd 2 7 rfl (by kernel_rfl)
   have y9 : IsN r.den (fb.eval (.tmp 9)) wi := hd 4 9 rfl (by kernel_rfl)
   refine sc rfl 130 [.tmp 7, .tmp 9] #[143, 141] rfl _ Tryz.func130 rfl (by decide +kernel) [fb.eval (.tmp 7), fb.eval (.tmp 9)] rfl (by have h := reduce_any _ _ _ _ _ wi y7 y9 (by rw [Int.natAbs_neg, HSG.out]; exact HRB.out.nl) r.den_nz HDB.out; rw [sgI_negI, HSG.out] at h; exact h) (fun e w' h => rk hK h)
  |n + 6, hn => exact absurd hn (by omega)
 ·skip
  have t10 : IsR (mkRat (-r.num) r.den) (xs 5) w1 := hT 5 (by decide)
  simp only [frOf, putAll, List.drop_succ_cons, List.drop_zero, List.setIfInBounds_toArray, List.set_cons_succ, List.set_cons_zero, Nat.zero_add, Nat.reduceAdd]
  obtain ⟨u10, d10, q10, h10, g10⟩ := t10
  have HU := Lib.hid h10; have HD := Lib.hid g10
  obtain ⟨A5, k5, c5, rfl⟩ := h10.form
  obtain ⟨A6, k6, c6, rfl⟩ := g10.form
  have HB9 := Lib.hid (HRW.out.ext hx)
  have HX9 := Lib.hid (HX0.out.trans hx)
  rw [q10]
  clear q10 h10 g10 hT
  have b0 := HB9.out.cell 0; have b1 := HB9.out.cell 1; have b2 := HB9.out.cell 2
  have f0 := HB9.out.frozen 0; have f1 := HB9.out.frozen 1; have f2 := HB9.out.frozen 2
  simp only [List.getElem?_cons_succ, List.getElem?_cons_zero] at b0 b1 b2
  obtain ⟨s9, hs⟩ : ∃ sg_, sg_ = negI (mkRat (-r.num) r.den).num := ⟨_, rfl⟩
  rw [← hs]
  have HS := Lib.hid hs
  clear hs
  go_wp2_with fail
  refine bodyPost_ret (v := .agg #[.bool s9, .slice A5 k5 c5, .slice A6 k6 c6]) (by simp [results, Tryz.results138, go_sem, b0, b1, b2]) rfl ?_
  exact ⟨_, rfl, ⟨_, _, by rw [HS.out], HU.out.other HB9.out rfl (ks3 _ _ _ _ _), HD.out.other HB9.out rfl (ks3 _ _ _ _ _)⟩, kext HX9.out (by omega) (ks3 _ _ _ _ _)⟩
theorem blk3c {t : TypeId} {w : World} {g : Nat} {a b c : Value} (h : Blk t w g [a, b, c]) : w.cell? ⟨g, 0, none⟩ = some a ∧ w.cell? ⟨g, 1, none⟩ = some b ∧ w.cell? ⟨g, 2, none⟩ = some c := ⟨h.cell 0, h.cell 1, h.cell 2⟩
set_option maxRecDepth 100000 in
set_option maxHeartbeats 3200000 in
theorem rmul_any (r q : Rat) (v v' : Value) (w : World) (h : IsR r v w) (h' : IsR q v' w) (hb : RB r) (hb' : RB q) (hd : r.den * q.den < DB) : Calls Tryz.prog 131 #[v, v'] w (Ret (IsR (r * q)) w) := by
 rw [rat_mul]
 have HDB := Lib.hid hd
 clear hd
 have HA := Lib.hid h; have HA' := Lib.hid h'
 have HRB := Lib.hid hb; have HRB' := Lib.hid hb'
 obtain ⟨u, d, rfl, h1, h2⟩ := h
 obtain ⟨u', d', rfl, h3, h4⟩ := h'
 have HN := Lib.hid h1; have HD := Lib.hid h2; have HN' := Lib.hid h3; have HD' := Lib.hid h4
 obtain ⟨A, k, c, rfl⟩ := h1.form
 obtain ⟨A2, k2, c2, rfl⟩ := h2.form
 obtain ⟨A3, k3, c3, rfl⟩ := h3.form
 obtain ⟨A4, k4, c4, rfl⟩ := h4.form
 clear h1 h2 h3 h4 hb hb'
 have HSG : Hid (sgI (negI r.num) r.num.natAbs = r.num) := sgI_negI _
 have HSG' : Hid (sgI (negI q.num) q.num.natAbs = q.num) := sgI_negI _
 obtain ⟨s, hs⟩ : ∃ s, s = negI r.num := ⟨_, rfl⟩
 rw [← hs] at HA HSG ⊢
 obtain ⟨s', hs'⟩ : ∃ s, s = negI q.num := ⟨_, rfl⟩
 rw [← hs'] at HA' HSG' ⊢
 have HSE := Lib.hid hs; have HSE' := Lib.hid hs'
 clear hs hs'
 go_enter Tryz.func131, Tryz.ntmps131
 go_upto_region 1 with fail
 refine wp_at fun W0 hW0 => ?_
 have HX0 : Hid (Ext w W0) := by show Ext _ _; rw [hW0]; exact (((Ext.refl _).alloc _).alloc _).alloc _
 have HB1 : Hid (Blk 145 W0 (w.heap.size) [.bool s, .slice A k c, .slice A2 k2 c2]) := by show Blk _ _ _ _; rw [hW0]; exact ((Blk.new' rfl).ext ((Ext.refl _).alloc _)).ext ((Ext.refl _).alloc _)
 have HB2 : Hid (Blk 145 W0 (w.heap.size + 1) [.bool s', .slice A3 k3 c3, .slice A4 k4 c4]) := by show Blk _ _ _ _; rw [hW0]; exact (Blk.new' (by simp)).ext ((Ext.refl _).alloc _)
 have HR0 : Hid (Blk 145 W0 (w.heap.size + 1 + 1) [.bool false, .slice none 0 0, .slice none 0 0]) := by show Blk _ _ _ _; rw [hW0]; exact Blk.new' (by simp)
 have HAW := Lib.hid (HA.out.ext HX0.out); have HAW' := Lib.hid (HA'.out.ext HX0.out)
 clear hW0
 obtain ⟨b10, b11, b12⟩ := blk3c HB1.out; obtain ⟨b20, b21, b22⟩ := blk3c HB2.out
 have d0 := fun z : After W0 => After.cell b10 z; have d1 := fun z : After W0 => After.cell b11 z; have d2 := fun z : After W0 => After.cell b12 z
 have d3 := fun z : After W0 => After.cell b20 z; have d4 := fun z : After W0 => After.cell b21 z; have d5 := fun z : After W0 => After.cell b22 z
 clear b10 b11 b12 b20 b21 b22
 refine region_tail 4 (by kernel_rfl) (by kernel_rfl) ?_
 simp only [List.take_succ_cons, List.take_zero, List.drop_succ_cons, List.drop_zero]
 repeat (go_big_quiet_step ((go_at_call 120; first | exact after_call (value_any r _ _ (HAW.out.ext (After.ext _))) | exact after_call (value_any q _ _ (HAW'.out.ext (After.ext _))))))
 refine wpQuiet_nil ?_
 rintro w1 ⟨⟨_, he⟩, rfl⟩
 clear d0 d1 d2 d3 d4 d5
 obtain ⟨b10, b11, b12⟩ := blk3c (HB1.out.ext he); obtain ⟨b20, b21, b22⟩ := blk3c (HB2.out.ext he)
 have f10 := (HB1.out.ext he).frozen 0; have f11 := (HB1.out.ext he).frozen 1; have f12 := (HB1.out.ext he).frozen 2
 have f20 := (HB2.out.ext he).frozen 0; have f21 := (HB2.out.ext he).frozen 1; have f22 := (HB2.out.ext he).frozen 2
 have HE := Lib.hid he
 clear he
 go_upto_region 2 with fail
 refine wp_at fun W2 hW2 => ?_
 have hx1 := HX0.out.trans HE.out
 have HX2 : Hid (Ext w W2) := by show Ext _ _; rw [hW2]; exact kext (kext hx1 (Nat.le_refl _) (ks3 _ _ _ _ _)) (Nat.le_succ _) (ks3 _ _ _ _ _)
 have HBW : Hid (Blk 145 W2 (w.heap.size) [.bool s, .slice A k c, .slice A2 k2 c2]) := by show Blk _ _ _ _; rw [hW2]; exact (ks3 _ _ _ _ _).blk ((((HB1.out.ext HE.out).set 0 _).set 1 _).set 2 _) (by simp)
 have HBW' : Hid (Blk 145 W2 (w.heap.size + 1) [.bool s', .slice A3 k3 c3, .slice A4 k4 c4]) := by show Blk _ _ _ _; rw [hW2]; exact ((((ks3 _ _ _ _ _).blk (HB2.out.ext HE.out) (by simp)).set 0 _).set 1 _).set 2 _
 have HRW : Hid (Blk 145 W2 (w.heap.size + 1 + 1) [.bool false, .slice none 0 0, .slice none 0 0]) := by show Blk _ _ _ _; rw [hW2]; exact (ks3 _ _ _ _ _).blk ((ks3 _ _ _ _ _).blk (HR0.out.ext HE.out) (by show ¬ (w.heap.size + 1 + 1 = w.heap.size); omega)) (by simp)
 clear hW2 b10 b11 b12 b20 b21 b22 f10 f11 f12 f20 f21 f22 hx1 HX0 HE HB1 HB2 HR0
 have HX0 := HX2
 have HNW := Lib.hid (HN.out.ext HX0.out); have HDW := Lib.hid (HD.out.ext HX0.out); have HNW' := Lib.hid (HN'.out.ext HX0.out); have HDW' := Lib.hid (HD'.out.ext HX0.out)
 refine region_slotsL (l := 11) (N := 20) (W0 := W2) [9, 10, 11, 12, 13, 14, 15, 16, 17, 18, 19] [Fx (.pointer (some ⟨w.heap.size, 0, none⟩)), IsRaw s r.num.natAbs, Fx (.pointer (some ⟨w.heap.size + 1, 0, none⟩)), IsRaw s' q.num.natAbs, IsZ (sgI s r.num.natAbs * sgI s' q.num.natAbs), Fx (.pointer (some ⟨w.heap.size, 2, none⟩)), IsN r.den, Fx (.pointer (some ⟨w.heap.size + 1, 2, none⟩)), IsN q.den, IsN (r.den * q.den), IsR (mkRat (r.num * q.num) (r.den * q.den))] (by kernel_rfl) (by kernel_rfl) (by kernel_rfl) (by kernel_rfl) (Ext.refl _) ?kp (fun i hi => ?_) (fun xs w1 hx hT => ?_)
 case kp => exact ⟨Fx.kp _, IsRaw.kp _ _, Fx.kp _, IsRaw.kp _ _, IsZ.kp _, Fx.kp _, IsN.kp _, Fx.kp _, IsN.kp _, IsN.kp _, IsR.kp _, trivial⟩
 ·match i, hi with
  |0, _ =>
   refine so rfl ?_
   intro fb wi hx hb hd K hK
   have x2 : fb.eval (.tmp 2) = .pointer (some ⟨w.heap.size, 0, none⟩) := hb 2 rfl
   refine sv rfl (v := .pointer (some ⟨w.heap.size, 0, none⟩)) (w' := wi) (fun ρ hρ hc => ?_) (hK _ _ (Ext.refl _) (rfl))
   have r2 := (hρ (.tmp 2)).trans x2
   simp [execOp, go_sem, r2]
  |1, _ =>
   refine so rfl ?_
   intro fb wi hx hb hd K hK
   have x9 : fb.eval (.tmp 9) = .pointer (some ⟨w.heap.size, 0, none⟩) := hd 0 9 rfl (by kernel_rfl)
   have cf0 := (HBW.out.ext hx).cell 0
   have cf1 := (HBW.out.ext hx).cell 1
   simp only [List.getElem?_cons_zero, List.getElem?_cons_succ] at cf0 cf1
   refine sv rfl (v := .agg #[.bool s, .slice A k c]) (w' := wi) (fun ρ hρ hc => ?_) (hK _ _ (Ext.refl _) (⟨_, rfl, HNW.out.ext hx⟩))
   have r9 := (hρ (.tmp 9)).trans x9
   simp [execOp, go_sem, r9, cf0, cf1]
  |2, _ =>
   refine so rfl ?_
   intro fb wi hx hb hd K hK
   have x3 : fb.eval (.tmp 3) = .pointer (some ⟨w.heap.size + 1, 0, none⟩) := hb 3 rfl
   refine sv rfl (v := .pointer (some ⟨w.heap.size + 1, 0, none⟩)) (w' := wi) (fun ρ hρ hc => ?_) (hK _ _ (Ext.refl _) (rfl))
   have r3 := (hρ (.tmp 3)).trans x3
   simp [execOp, go_sem, r3]
  |3, _ =>
   refine so rfl ?_
   intro fb wi hx hb hd K hK
   have x11 : fb.eval (.tmp 11) = .pointer (some ⟨w.heap.size + 1, 0, none⟩) := hd 2 11 rfl (by kernel_rfl)
   have cf0 := (HBW'.out.ext hx).cell 0
   have cf1 := (HBW'.out.ext hx).cell 1
   simp only [List.getElem?_cons_zero, List.getElem?_cons_succ] at cf0 cf1
   refine sv rfl (v := .agg #[.bool s', .slice A3 k3 c3]) (w' := wi) (fun ρ hρ hc => ?_) (hK _ _ (Ext.refl _) (⟨_, rfl, HNW'.out.ext hx⟩))
   have r11 := (hρ (.tmp 11)).trans x11
   simp [execOp, go_sem, r11, cf0, cf1]
  |4, _ =>
   refine so rfl ?_
   intro fb wi hx hb hd K hK
   have y10 : IsRaw s r.num.natAbs (fb.eval (.tmp 10)) wi := hd 1 10 rfl (by kernel_rfl)
   have y12 : IsRaw s' q.num.natAbs (fb.eval (.tmp 12)) wi := hd 3 12 rfl (by kernel_rfl)
   refine sc rfl 122 [.tmp 10, .tmp 12] #[143, 143] rfl _ Tryz.func122 rfl (by decide +kernel) [fb.eval (.tmp 10), fb.eval (.tmp 12)] rfl (imul_any s s' _ _ _ _ wi y10 y12 HRB.out.nl HRB'.out.nl ((HRB.out.n.mul HRB'.out.n).len (by omega))) (fun e w' h => rk hK h)
  |5, _ =>
   refine so rfl ?_
   intro fb wi hx hb hd K hK
   have x2 : fb.eval (.tmp 2) = .pointer (some ⟨w.heap.size, 0, none⟩) := hb 2 rfl
   refine sv rfl (v := .pointer (some ⟨w.heap.size, 2, none⟩)) (w' := wi) (fun ρ hρ hc => ?_) (hK _ _ (Ext.refl _) (rfl))
   have r2 := (hρ (.tmp 2)).trans x2
   simp [execOp, go_sem, r2]
  |6, _ =>
   refine so rfl ?_
   intro fb wi hx hb hd K hK
   have x14 : fb.eval (.tmp 14) = .pointer (some ⟨w.heap.size, 2, none⟩) := hd 5 14 rfl (by kernel_rfl)
   have cf0 := (HBW.out.ext hx).cell 2
   simp only [List.getElem?_cons_zero, List.getElem?_cons_succ] at cf0
   refine sv rfl (v := .slice A2 k2 c2) (w' := wi) (fun ρ hρ hc => ?_) (hK _ _ (Ext.refl _) (HDW.out.ext hx))
   have r14 := (hρ (.tmp 14)).trans x14
   simp [execOp, go_sem, r14, cf0]
  |7, _ =>
   refine so rfl ?_
   intro fb wi hx hb hd K hK
   have x3 : fb.eval (.tmp 3) = .pointer (some ⟨w.heap.size + 1, 0, none⟩) := hb 3 rfl
   refine sv rfl (v := .pointer (some ⟨w.heap.size + 1, 2, none⟩)) (w' := wi) (fun ρ hρ hc => ?_) (hK _ _ (Ext.refl _) (rfl))
   have r3 := (hρ (.tmp 3)).trans x3
   simp [execOp, go_sem, r3]
  |8, _ =>
   refine so rfl ?_
   intro fb wi hx hb hd K hK
   have x16 : fb.eval (.tmp 16) = .pointer (some ⟨w.heap.size + 1, 2, none⟩) := hd 7 16 rfl (by kernel_rfl)
   have cf0 := (HBW'.out.ext hx).cell 2
   simp only [List.getElem?_cons_zero, List.getElem?_cons_succ] at cf0
   refine sv rfl (v := .slice A4 k4 c4) (w' := wi) (fun ρ hρ hc => ?_) (hK _ _ (Ext.refl _) (HDW'.out.ext hx))
   have r16 := (hρ (.tmp 16)).trans x16
   simp [execOp, go_sem, r16, cf0]
  |9, _ =>
   refine so rfl ?_
   intro fb wi hx hb hd K hK
   have y15 : IsN r.den (fb.eval (.tmp 15)) wi := hd 6 15 rfl (by kernel_rfl)
   have y17 : IsN q.den (fb.eval (.tmp 17)) wi := hd 8 17 rfl (by kernel_rfl)
   refine sc rfl 129 [.tmp 15, .tmp 17] #[141, 141] rfl _ Tryz.func129 rfl (by decide +kernel) [fb.eval (.tmp 15), fb.eval (.tmp 17)] rfl (nmul_any _ _ _ _ wi y15 y17 HRB.out.dl HRB'.out.dl) (fun e w' h => rk hK h)
  |10, _ =>
   refine so rfl ?_
   intro fb wi hx hb hd K hK
   have y13 : IsZ (sgI s r.num.natAbs * sgI s' q.num.natAbs) (fb.eval (.tmp 13)) wi := hd 4 13 rfl (by kernel_rfl)
   have y18 : IsN (r.den * q.den) (fb.eval (.tmp 18)) wi := hd 9 18 rfl (by kernel_rfl)
   refine sc rfl 130 [.tmp 13, .tmp 18] #[143, 141] rfl _ Tryz.func130 rfl (by decide +kernel) [fb.eval (.tmp 13), fb.eval (.tmp 18)] rfl (by have h := reduce_any _ _ _ _ _ wi y13 y18 (by rw [HSG.out, HSG'.out, Int.natAbs_mul]; exact (HRB.out.n.mul HRB'.out.n).len (by omega)) (Nat.mul_ne_zero r.den_nz q.den_nz) HDB.out; rw [sgI_negI, HSG.out, HSG'.out] at h; exact h) (fun e w' h => rk hK h)
  |n + 11, hn => exact absurd hn (by omega)
 ·skip
  have t19 : IsR (mkRat (r.num * q.num) (r.den * q.den)) (xs 10) w1 := hT 10 (by decide)
  simp only [frOf, putAll, List.drop_succ_cons, List.drop_zero, List.setIfInBounds_toArray, List.set_cons_succ, List.set_cons_zero, Nat.zero_add, Nat.reduceAdd]
  obtain ⟨u19, d19, q19, h19, g19⟩ := t19
  have HU := Lib.hid h19; have HD := Lib.hid g19
  obtain ⟨A5, k5, c5, rfl⟩ := h19.form
  obtain ⟨A6, k6, c6, rfl⟩ := g19.form
  have HB9 := Lib.hid (HRW.out.ext hx)
  have HX9 := Lib.hid (HX0.out.trans hx)
  rw [q19]
  clear q19 h19 g19 hT
  have b0 := HB9.out.cell 0; have b1 := HB9.out.cell 1; have b2 := HB9.out.cell 2
  have f0 := HB9.out.frozen 0; have f1 := HB9.out.frozen 1; have f2 := HB9.out.frozen 2
  simp only [List.getElem?_cons_succ, List.getElem?_cons_zero] at b0 b1 b2
  obtain ⟨s9, hs⟩ : ∃ sg_, sg_ = negI (mkRat (r.num * q.num) (r.den * q.den)).num := ⟨_, rfl⟩
  rw [← hs]
  have HS := Lib.hid hs
  clear hs
  go_wp2_with fail
  refine bodyPost_ret (v := .agg #[.bool s9, .slice A5 k5 c5, .slice A6 k6 c6]) (by simp [results, Tryz.results131, go_sem, b0, b1, b2]) rfl ?_
  exact ⟨_, rfl, ⟨_, _, by rw [HS.out], HU.out.other HB9.out rfl (ks3 _ _ _ _ _), HD.out.other HB9.out rfl (ks3 _ _ _ _ _)⟩, kext HX9.out (by omega) (ks3 _ _ _ _ _)⟩
theorem RB.cross {r q : Rat} (h : RB r) (h' : RB q) : Sz 200 (r.num * (q.den : Int)).natAbs := by
 rw [Int.natAbs_mul, Int.natAbs_natCast]; exact h.n.mul h'.d
theorem RB.sum {r q : Rat} (h : RB r) (h' : RB q) : (limbs ((r.num * (q.den : Int)).natAbs + (q.num * (r.den : Int)).natAbs)).length ≤ 1000 := ((h.cross h').add (h'.cross h)).len (by omega)
theorem RB.all {r q : Rat} (h : RB r) (h' : RB q) : (limbs (r.num * (q.den : Int) + q.num * (r.den : Int)).natAbs).length ≤ 1000 := Nat.le_trans (limbs_mono (Int.natAbs_add_le _ _)) (h.sum h')
set_option maxRecDepth 100000 in
set_option maxHeartbeats 3200000 in
theorem radd_any (r q : Rat) (v v' : Value) (w : World) (h : IsR r v w) (h' : IsR q v' w) (hb : RB r) (hb' : RB q) (hd : r.den * q.den < DB) : Calls Tryz.prog 137 #[v, v'] w (Ret (IsR (r + q)) w) := by
 rw [rat_add]
 have HDB := Lib.hid hd
 clear hd
 have HA := Lib.hid h; have HA' := Lib.hid h'
 have HRB := Lib.hid hb; have HRB' := Lib.hid hb'
 obtain ⟨u, d, rfl, h1, h2⟩ := h
 obtain ⟨u', d', rfl, h3, h4⟩ := h'
 have HN := Lib.hid h1; have HD := Lib.hid h2; have HN' := Lib.hid h3; have HD' := Lib.hid h4
 obtain ⟨A, k, c, rfl⟩ := h1.form
 obtain ⟨A2, k2, c2, rfl⟩ := h2.form
 obtain ⟨A3, k3, c3, rfl⟩ := h3.form
 obtain ⟨A4, k4, c4, rfl⟩ := h4.form
 clear h1 h2 h3 h4 hb hb'
 have HSG : Hid (sgI (negI r.num) r.num.natAbs = r.num) := sgI_negI _
 have HSG' : Hid (sgI (negI q.num) q.num.natAbs = q.num) := sgI_negI _
 obtain ⟨s, hs⟩ : ∃ s, s = negI r.num := ⟨_, rfl⟩
 rw [← hs] at HA HSG ⊢
 obtain ⟨s', hs'⟩ : ∃ s, s = negI q.num := ⟨_, rfl⟩
 rw [← hs'] at HA' HSG' ⊢
 have HSE := Lib.hid hs; have HSE' := Lib.hid hs'
 clear hs hs'
 go_enter Tryz.func137, Tryz.ntmps137
 go_upto_region 1 with fail
 refine wp_at fun W0 hW0 => ?_
 have HX0 : Hid (Ext w W0) := by show Ext _ _; rw [hW0]; exact (((Ext.refl _).alloc _).alloc _).alloc _
 have HB1 : Hid (Blk 145 W0 (w.heap.size) [.bool s, .slice A k c, .slice A2 k2 c2]) := by show Blk _ _ _ _; rw [hW0]; exact ((Blk.new' rfl).ext ((Ext.refl _).alloc _)).ext ((Ext.refl _).alloc _)
 have HB2 : Hid (Blk 145 W0 (w.heap.size + 1) [.bool s', .slice A3 k3 c3, .slice A4 k4 c4]) := by show Blk _ _ _ _; rw [hW0]; exact (Blk.new' (by simp)).ext ((Ext.refl _).alloc _)
 have HR0 : Hid (Blk 145 W0 (w.heap.size + 1 + 1) [.bool false, .slice none 0 0, .slice none 0 0]) := by show Blk _ _ _ _; rw [hW0]; exact Blk.new' (by simp)
 have HAW := Lib.hid (HA.out.ext HX0.out); have HAW' := Lib.hid (HA'.out.ext HX0.out)
 clear hW0
 obtain ⟨b10, b11, b12⟩ := blk3c HB1.out; obtain ⟨b20, b21, b22⟩ := blk3c HB2.out
 have d0 := fun z : After W0 => After.cell b10 z; have d1 := fun z : After W0 => After.cell b11 z; have d2 := fun z : After W0 => After.cell b12 z
 have d3 := fun z : After W0 => After.cell b20 z; have d4 := fun z : After W0 => After.cell b21 z; have d5 := fun z : After W0 => After.cell b22 z
 clear b10 b11 b12 b20 b21 b22
 refine region_tail 4 (by kernel_rfl) (by kernel_rfl) ?_
 simp only [List.take_succ_cons, List.take_zero, List.drop_succ_cons, List.drop_zero]
 repeat (go_big_quiet_step ((go_at_call 120; first | exact after_call (value_any r _ _ (HAW.out.ext (After.ext _))) | exact after_call (value_any q _ _ (HAW'.out.ext (After.ext _))))))
 refine wpQuiet_nil ?_
 rintro w1 ⟨⟨_, he⟩, rfl⟩
 clear d0 d1 d2 d3 d4 d5
 obtain ⟨b10, b11, b12⟩ := blk3c (HB1.out.ext he); obtain ⟨b20, b21, b22⟩ := blk3c (HB2.out.ext he)
 have f10 := (HB1.out.ext he).frozen 0; have f11 := (HB1.out.ext he).frozen 1; have f12 := (HB1.out.ext he).frozen 2
 have f20 := (HB2.out.ext he).frozen 0; have f21 := (HB2.out.ext he).frozen 1; have f22 := (HB2.out.ext he).frozen 2
 have HE := Lib.hid he
 clear he
 go_upto_region 2 with fail
 refine wp_at fun W2 hW2 => ?_
 have hx1 := HX0.out.trans HE.out
 have HX2 : Hid (Ext w W2) := by show Ext _ _; rw [hW2]; exact kext (kext hx1 (Nat.le_refl _) (ks3 _ _ _ _ _)) (Nat.le_succ _) (ks3 _ _ _ _ _)
 have HBW : Hid (Blk 145 W2 (w.heap.size) [.bool s, .slice A k c, .slice A2 k2 c2]) := by show Blk _ _ _ _; rw [hW2]; exact (ks3 _ _ _ _ _).blk ((((HB1.out.ext HE.out).set 0 _).set 1 _).set 2 _) (by simp)
 have HBW' : Hid (Blk 145 W2 (w.heap.size + 1) [.bool s', .slice A3 k3 c3, .slice A4 k4 c4]) := by show Blk _ _ _ _; rw [hW2]; exact ((((ks3 _ _ _ _ _).blk (HB2.out.ext HE.out) (by simp)).set 0 _).set 1 _).set 2 _
 have HRW : Hid (Blk 145 W2 (w.heap.size + 1 + 1) [.bool false, .slice none 0 0, .slice none 0 0]) := by show Blk _ _ _ _; rw [hW2]; exact (ks3 _ _ _ _ _).blk ((ks3 _ _ _ _ _).blk (HR0.out.ext HE.out) (by show ¬ (w.heap.size + 1 + 1 = w.heap.size); omega)) (by simp)
 clear hW2 b10 b11 b12 b20 b21 b22 f10 f11 f12 f20 f21 f22 hx1 HX0 HE HB1 HB2 HR0
 have HX0 := HX2
 have HNW := Lib.hid (HN.out.ext HX0.out); have HDW := Lib.hid (HD.out.ext HX0.out); have HNW' := Lib.hid (HN'.out.ext HX0.out); have HDW' := Lib.hid (HD'.out.ext HX0.out)
 refine region_slotsL (l := 14) (N := 30) (W0 := W2) [10, 11, 12, 13, 14, 15, 16, 17, 18, 19, 20, 21, 22, 5] [Fx (.pointer (some ⟨w.heap.size, 0, none⟩)), IsRaw s r.num.natAbs, Fx (.pointer (some ⟨w.heap.size + 1, 2, none⟩)), IsN q.den, IsRaw false q.den, IsZ (r.num * (q.den : Int)), Fx (.pointer (some ⟨w.heap.size + 1, 0, none⟩)), IsRaw s' q.num.natAbs, Fx (.pointer (some ⟨w.heap.size, 2, none⟩)), IsN r.den, IsRaw false r.den, IsZ (q.num * (r.den : Int)), IsZ (r.num * (q.den : Int) + q.num * (r.den : Int)), IsNew 143 W2.heap.size [.bool false, .slice none 0 0]] (by kernel_rfl) (by kernel_rfl) (by kernel_rfl) (by kernel_rfl) (Ext.refl _) ?kp (fun i hi => ?_) (fun xs w1 hx hT => ?_)
 case kp => exact ⟨Fx.kp _, IsRaw.kp _ _, Fx.kp _, IsN.kp _, IsRaw.kp _ _, IsZ.kp _, Fx.kp _, IsRaw.kp _ _, Fx.kp _, IsN.kp _, IsRaw.kp _ _, IsZ.kp _, IsZ.kp _, IsNew.kp _ _ _, trivial⟩
 ·match i, hi with
  |0, _ =>
   refine so rfl ?_
   intro fb wi hx hb hd K hK
   have x2 : fb.eval (.tmp 2) = .pointer (some ⟨w.heap.size, 0, none⟩) := hb 2 rfl
   refine sv rfl (v := .pointer (some ⟨w.heap.size, 0, none⟩)) (w' := wi) (fun ρ hρ hc => ?_) (hK _ _ (Ext.refl _) (rfl))
   have r2 := (hρ (.tmp 2)).trans x2
   simp [execOp, go_sem, r2]
  |1, _ =>
   refine so rfl ?_
   intro fb wi hx hb hd K hK
   have x10 : fb.eval (.tmp 10) = .pointer (some ⟨w.heap.size, 0, none⟩) := hd 0 10 rfl (by kernel_rfl)
   have cf0 := (HBW.out.ext hx).cell 0
   have cf1 := (HBW.out.ext hx).cell 1
   simp only [List.getElem?_cons_zero, List.getElem?_cons_succ] at cf0 cf1
   refine sv rfl (v := .agg #[.bool s, .slice A k c]) (w' := wi) (fun ρ hρ hc => ?_) (hK _ _ (Ext.refl _) (⟨_, rfl, HNW.out.ext hx⟩))
   have r10 := (hρ (.tmp 10)).trans x10
   simp [execOp, go_sem, r10, cf0, cf1]
  |2, _ =>
   refine so rfl ?_
   intro fb wi hx hb hd K hK
   have x3 : fb.eval (.tmp 3) = .pointer (some ⟨w.heap.size + 1, 0, none⟩) := hb 3 rfl
   refine sv rfl (v := .pointer (some ⟨w.heap.size + 1, 2, none⟩)) (w' := wi) (fun ρ hρ hc => ?_) (hK _ _ (Ext.refl _) (rfl))
   have r3 := (hρ (.tmp 3)).trans x3
   simp [execOp, go_sem, r3]
  |3, _ =>
   refine so rfl ?_
   intro fb wi hx hb hd K hK
   have x12 : fb.eval (.tmp 12) = .pointer (some ⟨w.heap.size + 1, 2, none⟩) := hd 2 12 rfl (by kernel_rfl)
   have cf0 := (HBW'.out.ext hx).cell 2
   simp only [List.getElem?_cons_zero, List.getElem?_cons_succ] at cf0
   refine sv rfl (v := .slice A4 k4 c4) (w' := wi) (fun ρ hρ hc => ?_) (hK _ _ (Ext.refl _) (HDW'.out.ext hx))
   have r12 := (hρ (.tmp 12)).trans x12
   simp [execOp, go_sem, r12, cf0]
  |4, _ =>
   refine so rfl ?_
   intro fb wi hx hb hd K hK
   have y13 : IsN q.den (fb.eval (.tmp 13)) wi := hd 3 13 rfl (by kernel_rfl)
   refine sc rfl 123 [.tmp 13] #[141] rfl _ Tryz.func123 rfl (by decide +kernel) [fb.eval (.tmp 13)] rfl (rposit_any _ _ wi y13) (fun e w' h => rk hK h)
  |5, _ =>
   refine so rfl ?_
   intro fb wi hx hb hd K hK
   have y11 : IsRaw s r.num.natAbs (fb.eval (.tmp 11)) wi := hd 1 11 rfl (by kernel_rfl)
   have y14 : IsRaw false q.den (fb.eval (.tmp 14)) wi := hd 4 14 rfl (by kernel_rfl)
   refine sc rfl 122 [.tmp 11, .tmp 14] #[143, 143] rfl _ Tryz.func122 rfl (by decide +kernel) [fb.eval (.tmp 11), fb.eval (.tmp 14)] rfl (by have h := imul_any s false _ _ _ _ wi y11 y14 HRB.out.nl HRB'.out.dl ((HRB.out.n.mul HRB'.out.d).len (by omega)); rw [HSG.out] at h; exact h) (fun e w' h => rk hK h)
  |6, _ =>
   refine so rfl ?_
   intro fb wi hx hb hd K hK
   have x3 : fb.eval (.tmp 3) = .pointer (some ⟨w.heap.size + 1, 0, none⟩) := hb 3 rfl
   refine sv rfl (v := .pointer (some ⟨w.heap.size + 1, 0, none⟩)) (w' := wi) (fun ρ hρ hc => ?_) (hK _ _ (Ext.refl _) (rfl))
   have r3 := (hρ (.tmp 3)).trans x3
   simp [execOp, go_sem, r3]
  |7, _ =>
   refine so rfl ?_
   intro fb wi hx hb hd K hK
   have x16 : fb.eval (.tmp 16) = .pointer (some ⟨w.heap.size + 1, 0, none⟩) := hd 6 16 rfl (by kernel_rfl)
   have cf0 := (HBW'.out.ext hx).cell 0
   have cf1 := (HBW'.out.ext hx).cell 1
   simp only [List.getElem?_cons_zero, List.getElem?_cons_succ] at cf0 cf1
   refine sv rfl (v := .agg #[.bool s', .slice A3 k3 c3]) (w' := wi) (fun ρ hρ hc => ?_) (hK _ _ (Ext.refl _) (⟨_, rfl, HNW'.out.ext hx⟩))
   have r16 := (hρ (.tmp 16)).trans x16
   simp [execOp, go_sem, r16, cf0, cf1]
  |8, _ =>
   refine so rfl ?_
   intro fb wi hx hb hd K hK
   have x2 : fb.eval (.tmp 2) = .pointer (some ⟨w.heap.size, 0, none⟩) := hb 2 rfl
   refine sv rfl (v := .pointer (some ⟨w.heap.size, 2, none⟩)) (w' := wi) (fun ρ hρ hc => ?_) (hK _ _ (Ext.refl _) (rfl))
   have r2 := (hρ (.tmp 2)).trans x2
   simp [execOp, go_sem, r2]
  |9, _ =>
   refine so rfl ?_
   intro fb wi hx hb hd K hK
   have x18 : fb.eval (.tmp 18) = .pointer (some ⟨w.heap.size, 2, none⟩) := hd 8 18 rfl (by kernel_rfl)
   have cf0 := (HBW.out.ext hx).cell 2
   simp only [List.getElem?_cons_zero, List.getElem?_cons_succ] at cf0
   refine sv rfl (v := .slice A2 k2 c2) (w' := wi) (fun ρ hρ hc => ?_) (hK _ _ (Ext.refl _) (HDW.out.ext hx))
   have r18 := (hρ (.tmp 18)).trans x18
   simp [execOp, go_sem, r18, cf0]
  |10, _ =>
   refine so rfl ?_
   intro fb wi hx hb hd K hK
   have y19 : IsN r.den (fb.eval (.tmp 19)) wi := hd 9 19 rfl (by kernel_rfl)
   refine sc rfl 123 [.tmp 19] #[141] rfl _ Tryz.func123 rfl (by decide +kernel) [fb.eval (.tmp 19)] rfl (rposit_any _ _ wi y19) (fun e w' h => rk hK h)
  |11, _ =>
   refine so rfl ?_
   intro fb wi hx hb hd K hK
   have y17 : IsRaw s' q.num.natAbs (fb.eval (.tmp 17)) wi := hd 7 17 rfl (by kernel_rfl)
   have y20 : IsRaw false r.den (fb.eval (.tmp 20)) wi := hd 10 20 rfl (by kernel_rfl)
   refine sc rfl 122 [.tmp 17, .tmp 20] #[143, 143] rfl _ Tryz.func122 rfl (by decide +kernel) [fb.eval (.tmp 17), fb.eval (.tmp 20)] rfl (by have h := imul_any s' false _ _ _ _ wi y17 y20 HRB'.out.nl HRB.out.dl ((HRB'.out.n.mul HRB.out.d).len (by omega)); rw [HSG'.out] at h; exact h) (fun e w' h => rk hK h)
  |12, _ =>
   refine so rfl ?_
   intro fb wi hx hb hd K hK
   have y15 : IsZ (r.num * (q.den : Int)) (fb.eval (.tmp 15)) wi := hd 5 15 rfl (by kernel_rfl)
   have y21 : IsZ (q.num * (r.den : Int)) (fb.eval (.tmp 21)) wi := hd 11 21 rfl (by kernel_rfl)
   refine sc rfl 151 [.tmp 15, .tmp 21] #[143, 143] rfl _ Tryz.func151 rfl (by decide +kernel) [fb.eval (.tmp 15), fb.eval (.tmp 21)] rfl (by have h := iadd_any _ _ _ _ _ _ wi y15 y21 ((HRB.out.cross HRB'.out).len (by omega)) ((HRB'.out.cross HRB.out).len (by omega)) (HRB.out.sum HRB'.out); rw [sgI_negI, sgI_negI] at h; exact h) (fun e w' h => rk hK h)
  |13, _ =>
   refine so rfl ?_
   intro fb wi hx hb hd K hK
   refine sv rfl (v := .pointer (some ⟨wi.heap.size, 0, none⟩)) (w' := wi.alloc (.cells #[.bool false, .slice none 0 0] 143)) (fun ρ hρ hc => ?_) (hK _ _ ((Ext.refl _).alloc _) (⟨wi.heap.size, rfl, hx.size, Blk.new' rfl⟩))
   simp [execOp, go_sem]
  |n + 14, hn => exact absurd hn (by omega)
 ·skip
  have t5 : IsNew 143 W2.heap.size [.bool false, .slice none 0 0] (xs 13) w1 := hT 13 (by decide)
  have t22 : IsZ (r.num * (q.den : Int) + q.num * (r.den : Int)) (xs 12) w1 := hT 12 (by decide)
  simp only [frOf, putAll, List.drop_succ_cons, List.drop_zero, List.setIfInBounds_toArray, List.set_cons_succ, List.set_cons_zero, Nat.zero_add, Nat.reduceAdd]
  obtain ⟨u22, q22, h22⟩ := t22
  obtain ⟨g5, q5, hg5, hb5⟩ := t5
  have HU := Lib.hid h22
  obtain ⟨A5, k5, c5, rfl⟩ := h22.form
  have HB5 := Lib.hid hb5; have HG5 := Lib.hid hg5; have HXX := Lib.hid hx
  have HX9 := Lib.hid (HX0.out.trans hx)
  rw [q22, q5]
  clear q22 q5 h22 hT
  have b0 := HB5.out.cell 0; have b1 := HB5.out.cell 1
  have f0 := HB5.out.frozen 0; have f1 := HB5.out.frozen 1
  simp only [List.getElem?_cons_succ, List.getElem?_cons_zero] at b0 b1
  obtain ⟨s9, hs⟩ : ∃ sg_, sg_ = negI (r.num * (q.den : Int) + q.num * (r.den : Int)) := ⟨_, rfl⟩
  rw [← hs]
  have HS := Lib.hid hs
  clear hs hg5 hb5 hx
  go_upto_region 3 with fail
  refine wp_at fun W3 hW3 => ?_
  have HX3 : Hid (Ext w W3) := by show Ext _ _; rw [hW3]; exact kext HX9.out (Nat.le_trans HX0.out.size HG5.out) (ks2 _ _ _ _)
  have HU3 : Hid (NatAt W3 (.slice A5 k5 c5) (r.num * (q.den : Int) + q.num * (r.den : Int)).natAbs) := by show NatAt _ _ _; rw [hW3]; exact HU.out.other HB5.out rfl (ks2 _ _ _ _)
  have HB6 : Hid (Blk 143 W3 g5 [.bool s9, .slice A5 k5 c5]) := by show Blk _ _ _ _; rw [hW3]; exact (HB5.out.set 0 _).set 1 _
  have HBV : Hid (Blk 145 W3 (w.heap.size) [.bool s, .slice A k c, .slice A2 k2 c2]) := by show Blk _ _ _ _; rw [hW3]; exact (ks2 _ _ _ _).blk (HBW.out.ext HXX.out) (by show ¬ (_ = _); have := HBW.out.lt; have := HG5.out; omega)
  have HBV' : Hid (Blk 145 W3 (w.heap.size + 1) [.bool s', .slice A3 k3 c3, .slice A4 k4 c4]) := by show Blk _ _ _ _; rw [hW3]; exact (ks2 _ _ _ _).blk (HBW'.out.ext HXX.out) (by show ¬ (_ = _); have := HBW'.out.lt; have := HG5.out; omega)
  have HRV : Hid (Blk 145 W3 (w.heap.size + 1 + 1) [.bool false, .slice none 0 0, .slice none 0 0]) := by show Blk _ _ _ _; rw [hW3]; exact (ks2 _ _ _ _).blk (HRW.out.ext HXX.out) (by show ¬ (_ = _); have := HRW.out.lt; have := HG5.out; omega)
  clear hW3 b0 b1 f0 f1 HXX HB5 HX9 HBW HBW' HRW HX0 HU
  have HX0 := HX3; have HBW := HBV; have HBW' := HBV'; have HRW := HRV
  have HNW := Lib.hid (HN.out.ext HX0.out); have HDW := Lib.hid (HD.out.ext HX0.out); have HNW' := Lib.hid (HN'.out.ext HX0.out); have HDW' := Lib.hid (HD'.out.ext HX0.out)
  refine region_slotsL (l := 7) (N := 30) (W0 := W3) [23, 24, 25, 26, 27, 28, 29] [IsRaw s9 (r.num * (q.den : Int) + q.num * (r.den : Int)).natAbs, Fx (.pointer (some ⟨w.heap.size, 2, none⟩)), IsN r.den, Fx (.pointer (some ⟨w.heap.size + 1, 2, none⟩)), IsN q.den, IsN (r.den * q.den), IsR (mkRat (r.num * (q.den : Int) + q.num * (r.den : Int)) (r.den * q.den))] (by kernel_rfl) (by kernel_rfl) (by kernel_rfl) (by kernel_rfl) (Ext.refl _) ?kp (fun i hi => ?_) (fun xs w1 hx hT => ?_)
  case kp => exact ⟨IsRaw.kp _ _, Fx.kp _, IsN.kp _, Fx.kp _, IsN.kp _, IsN.kp _, IsR.kp _, trivial⟩
  ·match i, hi with
   |0, _ =>
    refine so rfl ?_
    intro fb wi hx hb hd K hK
    have x5 : fb.eval (.tmp 5) = .pointer (some ⟨g5, 0, none⟩) := hb 5 rfl
    have cf0 := (HB6.out.ext hx).cell 0
    have cf1 := (HB6.out.ext hx).cell 1
    simp only [List.getElem?_cons_zero, List.getElem?_cons_succ] at cf0 cf1
    refine sv rfl (v := .agg #[.bool s9, .slice A5 k5 c5]) (w' := wi) (fun ρ hρ hc => ?_) (hK _ _ (Ext.refl _) (⟨_, rfl, HU3.out.ext hx⟩))
    have r5 := (hρ (.tmp 5)).trans x5
    simp [execOp, go_sem, r5, cf0, cf1]
   |1, _ =>
    refine so rfl ?_
    intro fb wi hx hb hd K hK
    have x2 : fb.eval (.tmp 2) = .pointer (some ⟨w.heap.size, 0, none⟩) := hb 2 rfl
    refine sv rfl (v := .pointer (some ⟨w.heap.size, 2, none⟩)) (w' := wi) (fun ρ hρ hc => ?_) (hK _ _ (Ext.refl _) (rfl))
    have r2 := (hρ (.tmp 2)).trans x2
    simp [execOp, go_sem, r2]
   |2, _ =>
    refine so rfl ?_
    intro fb wi hx hb hd K hK
    have x24 : fb.eval (.tmp 24) = .pointer (some ⟨w.heap.size, 2, none⟩) := hd 1 24 rfl (by kernel_rfl)
    have cf0 := (HBW.out.ext hx).cell 2
    simp only [List.getElem?_cons_zero, List.getElem?_cons_succ] at cf0
    refine sv rfl (v := .slice A2 k2 c2) (w' := wi) (fun ρ hρ hc => ?_) (hK _ _ (Ext.refl _) (HDW.out.ext hx))
    have r24 := (hρ (.tmp 24)).trans x24
    simp [execOp, go_sem, r24, cf0]
   |3, _ =>
    refine so rfl ?_
    intro fb wi hx hb hd K hK
    have x3 : fb.eval (.tmp 3) = .pointer (some ⟨w.heap.size + 1, 0, none⟩) := hb 3 rfl
    refine sv rfl (v := .pointer (some ⟨w.heap.size + 1, 2, none⟩)) (w' := wi) (fun ρ hρ hc => ?_) (hK _ _ (Ext.refl _) (rfl))
    have r3 := (hρ (.tmp 3)).trans x3
    simp [execOp, go_sem, r3]
   |4, _ =>
    refine so rfl ?_
    intro fb wi hx hb hd K hK
    have x26 : fb.eval (.tmp 26) = .pointer (some ⟨w.heap.size + 1, 2, none⟩) := hd 3 26 rfl (by kernel_rfl)
    have cf0 := (HBW'.out.ext hx).cell 2
    simp only [List.getElem?_cons_zero, List.getElem?_cons_succ] at cf0
    refine sv rfl (v := .slice A4 k4 c4) (w' := wi) (fun ρ hρ hc => ?_) (hK _ _ (Ext.refl _) (HDW'.out.ext hx))
    have r26 := (hρ (.tmp 26)).trans x26
    simp [execOp, go_sem, r26, cf0]
   |5, _ =>
    refine so rfl ?_
    intro fb wi hx hb hd K hK
    have y25 : IsN r.den (fb.eval (.tmp 25)) wi := hd 2 25 rfl (by kernel_rfl)
    have y27 : IsN q.den (fb.eval (.tmp 27)) wi := hd 4 27 rfl (by kernel_rfl)
    refine sc rfl 129 [.tmp 25, .tmp 27] #[141, 141] rfl _ Tryz.func129 rfl (by decide +kernel) [fb.eval (.tmp 25), fb.eval (.tmp 27)] rfl (nmul_any _ _ _ _ wi y25 y27 HRB.out.dl HRB'.out.dl) (fun e w' h => rk hK h)
   |6, _ =>
    refine so rfl ?_
    intro fb wi hx hb hd K hK
    have y23 : IsRaw s9 (r.num * (q.den : Int) + q.num * (r.den : Int)).natAbs (fb.eval (.tmp 23)) wi := hd 0 23 rfl (by kernel_rfl)
    have y28 : IsN (r.den * q.den) (fb.eval (.tmp 28)) wi := hd 5 28 rfl (by kernel_rfl)
    refine sc rfl 130 [.tmp 23, .tmp 28] #[143, 141] rfl _ Tryz.func130 rfl (by decide +kernel) [fb.eval (.tmp 23), fb.eval (.tmp 28)] rfl (by have h := reduce_any _ _ _ _ _ wi y23 y28 (HRB.out.all HRB'.out) (Nat.mul_ne_zero r.den_nz q.den_nz) HDB.out; rw [HS.out, sgI_negI] at h; exact h) (fun e w' h => rk hK h)
   |n + 7, hn => exact absurd hn (by omega)
  ·skip
   have t29 : IsR (mkRat (r.num * (q.den : Int) + q.num * (r.den : Int)) (r.den * q.den)) (xs 6) w1 := hT 6 (by decide)
   simp only [frOf, putAll, List.drop_succ_cons, List.drop_zero, List.setIfInBounds_toArray, List.set_cons_succ, List.set_cons_zero, Nat.zero_add, Nat.reduceAdd]
   obtain ⟨u29, d29, q29, h29, g29⟩ := t29
   have HU := Lib.hid h29; have HD := Lib.hid g29
   obtain ⟨A7, k7, c7, rfl⟩ := h29.form
   obtain ⟨A6, k6, c6, rfl⟩ := g29.form
   have HB9 := Lib.hid (HRW.out.ext hx)
   have HX9 := Lib.hid (HX0.out.trans hx)
   rw [q29]
   clear q29 h29 g29 hT
   have b0 := HB9.out.cell 0; have b1 := HB9.out.cell 1; have b2 := HB9.out.cell 2
   have f0 := HB9.out.frozen 0; have f1 := HB9.out.frozen 1; have f2 := HB9.out.frozen 2
   simp only [List.getElem?_cons_succ, List.getElem?_cons_zero] at b0 b1 b2
   obtain ⟨s8, hs⟩ : ∃ sg_, sg_ = negI (mkRat (r.num * (q.den : Int) + q.num * (r.den : Int)) (r.den * q.den)).num := ⟨_, rfl⟩
   rw [← hs]
   have HS8 := Lib.hid hs
   clear hs
   go_wp2_with fail
   refine bodyPost_ret (v := .agg #[.bool s8, .slice A7 k7 c7, .slice A6 k6 c6]) (by simp [results, Tryz.results137, go_sem, b0, b1, b2]) rfl ?_
   exact ⟨_, rfl, ⟨_, _, by rw [HS8.out], HU.out.other HB9.out rfl (ks3 _ _ _ _ _), HD.out.other HB9.out rfl (ks3 _ _ _ _ _)⟩, kext HX9.out (by omega) (ks3 _ _ _ _ _)⟩
theorem RB.neg {r : Rat} (h : RB r) : RB (-r) := ⟨by rw [Rat.neg_num, Int.natAbs_neg]; exact h.n, by rw [Rat.neg_den]; exact h.d⟩
set_option maxRecDepth 100000 in
set_option maxHeartbeats 3200000 in
theorem rsub_any (r q : Rat) (v v' : Value) (w : World) (h : IsR r v w) (h' : IsR q v' w) (hb : RB r) (hb' : RB q) (hd : r.den * q.den < DB) (hq : q.den < DB) : Calls Tryz.prog 111 #[v, v'] w (Ret (IsR (r - q)) w) := by
 rw [Rat.sub_eq_add_neg]
 have HDB := Lib.hid hd; have HDQ := Lib.hid hq
 clear hd hq
 have HA := Lib.hid h; have HA' := Lib.hid h'
 have HRB := Lib.hid hb; have HRB' := Lib.hid hb'
 obtain ⟨u, d, rfl, h1, h2⟩ := h
 obtain ⟨u', d', rfl, h3, h4⟩ := h'
 have HN := Lib.hid h1; have HD := Lib.hid h2; have HN' := Lib.hid h3; have HD' := Lib.hid h4
 obtain ⟨A, k, c, rfl⟩ := h1.form
 obtain ⟨A2, k2, c2, rfl⟩ := h2.form
 obtain ⟨A3, k3, c3, rfl⟩ := h3.form
 obtain ⟨A4, k4, c4, rfl⟩ := h4.form
 clear h1 h2 h3 h4 hb hb'
 have HSG : Hid (sgI (negI r.num) r.num.natAbs = r.num) := sgI_negI _
 have HSG' : Hid (sgI (negI q.num) q.num.natAbs = q.num) := sgI_negI _
 obtain ⟨s, hs⟩ : ∃ s, s = negI r.num := ⟨_, rfl⟩
 rw [← hs] at HA HSG ⊢
 obtain ⟨s', hs'⟩ : ∃ s, s = negI q.num := ⟨_, rfl⟩
 rw [← hs'] at HA' HSG' ⊢
 have HSE := Lib.hid hs; have HSE' := Lib.hid hs'
 clear hs hs'
 go_enter Tryz.func111, Tryz.ntmps111
 go_upto_region 1 with fail
 refine wp_at fun W0 hW0 => ?_
 have HX0 : Hid (Ext w W0) := by show Ext _ _; rw [hW0]; exact (((Ext.refl _).alloc _).alloc _).alloc _
 have HB1 : Hid (Blk 145 W0 (w.heap.size) [.bool s, .slice A k c, .slice A2 k2 c2]) := by show Blk _ _ _ _; rw [hW0]; exact ((Blk.new' rfl).ext ((Ext.refl _).alloc _)).ext ((Ext.refl _).alloc _)
 have HB2 : Hid (Blk 145 W0 (w.heap.size + 1) [.bool s', .slice A3 k3 c3, .slice A4 k4 c4]) := by show Blk _ _ _ _; rw [hW0]; exact (Blk.new' (by simp)).ext ((Ext.refl _).alloc _)
 have HR0 : Hid (Blk 145 W0 (w.heap.size + 1 + 1) [.bool false, .slice none 0 0, .slice none 0 0]) := by show Blk _ _ _ _; rw [hW0]; exact Blk.new' (by simp)
 have HAW := Lib.hid (HA.out.ext HX0.out); have HAW' := Lib.hid (HA'.out.ext HX0.out)
 clear hW0
 refine region_slotsL (l := 4) (N := 9) (W0 := W0) [5, 6, 7, 8] [IsR r, IsR q, IsR (-q), IsR (r + -q)] (by kernel_rfl) (by kernel_rfl) (by kernel_rfl) (by kernel_rfl) (Ext.refl _) ?kp (fun i hi => ?_) (fun xs w1 hx hT => ?_)
 case kp => exact ⟨IsR.kp _, IsR.kp _, IsR.kp _, IsR.kp _, trivial⟩
 ·match i, hi with
  |0, _ =>
   refine so rfl ?_
   intro fb wi hx hb hd K hK
   have x2 : fb.eval (.tmp 2) = .pointer (some ⟨w.heap.size, 0, none⟩) := hb 2 rfl
   have cf0 := (HB1.out.ext hx).cell 0
   have cf1 := (HB1.out.ext hx).cell 1
   have cf2 := (HB1.out.ext hx).cell 2
   simp only [List.getElem?_cons_zero, List.getElem?_cons_succ] at cf0 cf1 cf2
   refine sv rfl (v := .agg #[.bool s, .slice A k c, .slice A2 k2 c2]) (w' := wi) (fun ρ hρ hc => ?_) (hK _ _ (Ext.refl _) (HAW.out.ext hx))
   have r2 := (hρ (.tmp 2)).trans x2
   simp [execOp, go_sem, r2, cf0, cf1, cf2]
  |1, _ =>
   refine so rfl ?_
   intro fb wi hx hb hd K hK
   have x3 : fb.eval (.tmp 3) = .pointer (some ⟨w.heap.size + 1, 0, none⟩) := hb 3 rfl
   have cf0 := (HB2.out.ext hx).cell 0
   have cf1 := (HB2.out.ext hx).cell 1
   have cf2 := (HB2.out.ext hx).cell 2
   simp only [List.getElem?_cons_zero, List.getElem?_cons_succ] at cf0 cf1 cf2
   refine sv rfl (v := .agg #[.bool s', .slice A3 k3 c3, .slice A4 k4 c4]) (w' := wi) (fun ρ hρ hc => ?_) (hK _ _ (Ext.refl _) (HAW'.out.ext hx))
   have r3 := (hρ (.tmp 3)).trans x3
   simp [execOp, go_sem, r3, cf0, cf1, cf2]
  |2, _ =>
   refine so rfl ?_
   intro fb wi hx hb hd K hK
   have y6 : IsR q (fb.eval (.tmp 6)) wi := hd 1 6 rfl (by kernel_rfl)
   refine sc rfl 138 [.tmp 6] #[145] rfl _ Tryz.func138 rfl (by decide +kernel) [fb.eval (.tmp 6)] rfl (rneg_any _ _ wi y6 HRB'.out HDQ.out) (fun e w' h => rk hK h)
  |3, _ =>
   refine so rfl ?_
   intro fb wi hx hb hd K hK
   have y5 : IsR r (fb.eval (.tmp 5)) wi := hd 0 5 rfl (by kernel_rfl)
   have y7 : IsR (-q) (fb.eval (.tmp 7)) wi := hd 2 7 rfl (by kernel_rfl)
   refine sc rfl 137 [.tmp 5, .tmp 7] #[145, 145] rfl _ Tryz.func137 rfl (by decide +kernel) [fb.eval (.tmp 5), fb.eval (.tmp 7)] rfl (radd_any _ _ _ _ wi y5 y7 HRB.out HRB'.out.neg (by rw [Rat.neg_den]; exact HDB.out)) (fun e w' h => rk hK h)
  |n + 4, hn => exact absurd hn (by omega)
 ·skip
  have t8 : IsR (r + -q) (xs 3) w1 := hT 3 (by decide)
  simp only [frOf, putAll, List.drop_succ_cons, List.drop_zero, List.setIfInBounds_toArray, List.set_cons_succ, List.set_cons_zero, Nat.zero_add, Nat.reduceAdd]
  obtain ⟨u8, d8, q8, h8, g8⟩ := t8
  have HU := Lib.hid h8; have HD := Lib.hid g8
  obtain ⟨A5, k5, c5, rfl⟩ := h8.form
  obtain ⟨A6, k6, c6, rfl⟩ := g8.form
  have HB9 := Lib.hid (HR0.out.ext hx)
  have HX9 := Lib.hid (HX0.out.trans hx)
  rw [q8]
  clear q8 h8 g8 hT
  have b0 := HB9.out.cell 0; have b1 := HB9.out.cell 1; have b2 := HB9.out.cell 2
  have f0 := HB9.out.frozen 0; have f1 := HB9.out.frozen 1; have f2 := HB9.out.frozen 2
  simp only [List.getElem?_cons_succ, List.getElem?_cons_zero] at b0 b1 b2
  obtain ⟨s9, hs⟩ : ∃ sg_, sg_ = negI (r + -q).num := ⟨_, rfl⟩
  rw [← hs]
  have HS := Lib.hid hs
  clear hs
  go_wp2_with fail
  refine bodyPost_ret (v := .agg #[.bool s9, .slice A5 k5 c5, .slice A6 k6 c6]) (by simp [results, Tryz.results111, go_sem, b0, b1, b2]) rfl ?_
  exact ⟨_, rfl, ⟨_, _, by rw [HS.out], HU.out.other HB9.out rfl (ks3 _ _ _ _ _), HD.out.other HB9.out rfl (ks3 _ _ _ _ _)⟩, kext HX9.out (by omega) (ks3 _ _ _ _ _)⟩
/- a value and a sign that all is well -/
def IsOk (T : Value → World → Prop) : Value → World → Prop := fun v w => ∃ u, v = .tuple #[u, .bool true] ∧ T u w
theorem blk3f {t : TypeId} {w : World} {g : Nat} {cs : List Value} (h : Blk t w g cs) : w.frozen? ⟨g, 0, none⟩ = false ∧ w.frozen? ⟨g, 1, none⟩ = false ∧ w.frozen? ⟨g, 2, none⟩ = false := ⟨h.frozen 0, h.frozen 1, h.frozen 2⟩
set_option maxRecDepth 100000 in
set_option maxHeartbeats 3200000 in
theorem rdiv_any (r q : Rat) (v v' : Value) (w : World) (h : IsR r v w) (h' : IsR q v' w) (hb : RB r) (hb' : RB q) (hd : r.den * q.num.natAbs < DB) (hq : q.num ≠ 0) : Calls Tryz.prog 106 #[v, v'] w (Ret (IsOk (IsR (r / q))) w) := by
 rw [rat_div _ _ hq]
 have HDB := Lib.hid hd; have HQ := Lib.hid hq
 clear hd hq
 have HA := Lib.hid h; have HA' := Lib.hid h'
 have HRB := Lib.hid hb; have HRB' := Lib.hid hb'
 obtain ⟨u, d, rfl, h1, h2⟩ := h
 obtain ⟨u', d', rfl, h3, h4⟩ := h'
 have HN := Lib.hid h1; have HD := Lib.hid h2; have HN' := Lib.hid h3; have HD' := Lib.hid h4
 obtain ⟨A, k, c, rfl⟩ := h1.form
 obtain ⟨A2, k2, c2, rfl⟩ := h2.form
 obtain ⟨A3, k3, c3, rfl⟩ := h3.form
 obtain ⟨A4, k4, c4, rfl⟩ := h4.form
 clear h1 h2 h3 h4 hb hb'
 have HSG : Hid (sgI (negI r.num) r.num.natAbs = r.num) := sgI_negI _
 have HSG' : Hid (sgI (negI q.num) q.num.natAbs = q.num) := sgI_negI _
 obtain ⟨s, hs⟩ : ∃ s, s = negI r.num := ⟨_, rfl⟩
 rw [← hs] at HA HSG ⊢
 obtain ⟨s', hs'⟩ : ∃ s, s = negI q.num := ⟨_, rfl⟩
 rw [← hs'] at HA' HSG' ⊢
 have HSE := Lib.hid hs; have HSE' := Lib.hid hs'
 clear hs hs'
 go_enter Tryz.func106, Tryz.ntmps106
 go_upto_region 1 with fail
 refine wp_at fun W0 hW0 => ?_
 have HX0 : Hid (Ext w W0) := by show Ext _ _; rw [hW0]; exact (((Ext.refl _).alloc _).alloc _).alloc _
 have HB1 : Hid (Blk 145 W0 (w.heap.size) [.bool s, .slice A k c, .slice A2 k2 c2]) := by show Blk _ _ _ _; rw [hW0]; exact ((Blk.new' rfl).ext ((Ext.refl _).alloc _)).ext ((Ext.refl _).alloc _)
 have HB2 : Hid (Blk 145 W0 (w.heap.size + 1) [.bool s', .slice A3 k3 c3, .slice A4 k4 c4]) := by show Blk _ _ _ _; rw [hW0]; exact (Blk.new' (by simp)).ext ((Ext.refl _).alloc _)
 have HR0 : Hid (Blk 145 W0 (w.heap.size + 1 + 1) [.bool false, .slice none 0 0, .slice none 0 0]) := by show Blk _ _ _ _; rw [hW0]; exact Blk.new' (by simp)
 have HAW := Lib.hid (HA.out.ext HX0.out); have HAW' := Lib.hid (HA'.out.ext HX0.out)
 clear hW0
 obtain ⟨b10, b11, b12⟩ := blk3c HB1.out; obtain ⟨b20, b21, b22⟩ := blk3c HB2.out
 have d0 := fun z : After W0 => After.cell b10 z; have d1 := fun z : After W0 => After.cell b11 z; have d2 := fun z : After W0 => After.cell b12 z
 have d3 := fun z : After W0 => After.cell b20 z; have d4 := fun z : After W0 => After.cell b21 z; have d5 := fun z : After W0 => After.cell b22 z
 clear b10 b11 b12 b20 b21 b22
 refine region_tail 4 (by kernel_rfl) (by kernel_rfl) ?_
 simp only [List.take_succ_cons, List.take_zero, List.drop_succ_cons, List.drop_zero]
 repeat (go_big_quiet_step ((go_at_call 120; first | exact after_call (value_any r _ _ (HAW.out.ext (After.ext _))) | exact after_call (value_any q _ _ (HAW'.out.ext (After.ext _))))))
 refine wpQuiet_nil ?_
 rintro w1 ⟨⟨_, he⟩, rfl⟩
 clear d0 d1 d2 d3 d4 d5
 obtain ⟨b10, b11, b12⟩ := blk3c (HB1.out.ext he); obtain ⟨b20, b21, b22⟩ := blk3c (HB2.out.ext he)
 have f10 := (HB1.out.ext he).frozen 0; have f11 := (HB1.out.ext he).frozen 1; have f12 := (HB1.out.ext he).frozen 2
 have f20 := (HB2.out.ext he).frozen 0; have f21 := (HB2.out.ext he).frozen 1; have f22 := (HB2.out.ext he).frozen 2
 have HE := Lib.hid he
 clear he
 go_upto_region 2 with fail
 refine wp_at fun W2 hW2 => ?_
 have hx1 := HX0.out.trans HE.out
 have HX2 : Hid (Ext w W2) := by show Ext _ _; rw [hW2]; exact kext (kext hx1 (Nat.le_refl _) (ks3 _ _ _ _ _)) (Nat.le_succ _) (ks3 _ _ _ _ _)
 have HBW : Hid (Blk 145 W2 (w.heap.size) [.bool s, .slice A k c, .slice A2 k2 c2]) := by show Blk _ _ _ _; rw [hW2]; exact (ks3 _ _ _ _ _).blk ((((HB1.out.ext HE.out).set 0 _).set 1 _).set 2 _) (by simp)
 have HBW' : Hid (Blk 145 W2 (w.heap.size + 1) [.bool s', .slice A3 k3 c3, .slice A4 k4 c4]) := by show Blk _ _ _ _; rw [hW2]; exact ((((ks3 _ _ _ _ _).blk (HB2.out.ext HE.out) (by simp)).set 0 _).set 1 _).set 2 _
 have HRW : Hid (Blk 145 W2 (w.heap.size + 1 + 1) [.bool false, .slice none 0 0, .slice none 0 0]) := by show Blk _ _ _ _; rw [hW2]; exact (ks3 _ _ _ _ _).blk ((ks3 _ _ _ _ _).blk (HR0.out.ext HE.out) (by show ¬ (w.heap.size + 1 + 1 = w.heap.size); omega)) (by simp)
 clear hW2 b10 b11 b12 b20 b21 b22 f10 f11 f12 f20 f21 f22 hx1 HX0 HE HB1 HB2 HR0
 have HX0 := HX2
 have HNW := Lib.hid (HN.out.ext HX0.out); have HDW := Lib.hid (HD.out.ext HX0.out); have HNW' := Lib.hid (HN'.out.ext HX0.out); have HDW' := Lib.hid (HD'.out.ext HX0.out)
 have HAX := Lib.hid HX0
 obtain ⟨_, c1x, _⟩ := blk3c HBW'.out
 have hqz : decide (q.num.natAbs = 0) = false := decide_eq_false (fun e => HQ.out (Int.natAbs_eq_zero.1 e))
 go_wp2_with fail
 refine (zero_any _ q.num.natAbs _ HNW'.out).mono ?_
 rintro e w3 ⟨rfl, he3⟩
 rw [hqz]
 clear hqz c1x
 go_upto_region 4 with fail
 refine wp_at fun W4 hW4 => ?_
 have he4 : Ext W2 W4 := by rw [hW4]; exact he3
 have HX4 := Lib.hid (HX0.out.trans he4)
 have HBX := Lib.hid (HBW.out.ext he4); have HBX' := Lib.hid (HBW'.out.ext he4); have HRX := Lib.hid (HRW.out.ext he4)
 clear hW4 he3 he4 HX0 HX2 HAX HBW HBW' HRW HNW HDW HNW' HDW'
 have HX0 := HX4; have HBW := HBX; have HBW' := HBX'; have HRW := HRX
 clear HX4 HBX HBX' HRX
 have HNW := Lib.hid (HN.out.ext HX0.out); have HDW := Lib.hid (HD.out.ext HX0.out); have HNW' := Lib.hid (HN'.out.ext HX0.out); have HDW' := Lib.hid (HD'.out.ext HX0.out)
 refine region_slotsL (l := 15) (N := 38) (W0 := W4) [16, 17, 18, 19, 20, 21, 22, 23, 24, 25, 26, 27, 28, 29, 6] [Fx (.pointer (some ⟨w.heap.size, 0, none⟩)), Fx (.pointer (some ⟨w.heap.size, 0, none⟩)), Fx (.bool s), Fx (.pointer (some ⟨w.heap.size + 1, 0, none⟩)), Fx (.pointer (some ⟨w.heap.size + 1, 0, none⟩)), Fx (.bool s'), Fx (.bool (s != s')), Fx (.pointer (some ⟨w.heap.size, 0, none⟩)), Fx (.pointer (some ⟨w.heap.size, 1, none⟩)), IsN r.num.natAbs, Fx (.pointer (some ⟨w.heap.size + 1, 2, none⟩)), IsN q.den, IsN (r.num.natAbs * q.den), IsRaw (s != s') (r.num.natAbs * q.den), IsNew 143 W4.heap.size [.bool false, .slice none 0 0]] (by kernel_rfl) (by kernel_rfl) (by kernel_rfl) (by kernel_rfl) (Ext.refl _) ?kp (fun i hi => ?_) (fun xs w1 hx hT => ?_)
 case kp => exact ⟨Fx.kp _, Fx.kp _, Fx.kp _, Fx.kp _, Fx.kp _, Fx.kp _, Fx.kp _, Fx.kp _, Fx.kp _, IsN.kp _, Fx.kp _, IsN.kp _, IsN.kp _, IsRaw.kp _ _, IsNew.kp _ _ _, trivial⟩
 ·match i, hi with
  |0, _ =>
   refine so rfl ?_
   intro fb wi hx hb hd K hK
   have x2 : fb.eval (.tmp 2) = .pointer (some ⟨w.heap.size, 0, none⟩) := hb 2 rfl
   refine sv rfl (v := .pointer (some ⟨w.heap.size, 0, none⟩)) (w' := wi) (fun ρ hρ hc => ?_) (hK _ _ (Ext.refl _) (rfl))
   have r2 := (hρ (.tmp 2)).trans x2
   simp [execOp, go_sem, r2]
  |1, _ =>
   refine so rfl ?_
   intro fb wi hx hb hd K hK
   have x16 : fb.eval (.tmp 16) = .pointer (some ⟨w.heap.size, 0, none⟩) := hd 0 16 rfl (by kernel_rfl)
   refine sv rfl (v := .pointer (some ⟨w.heap.size, 0, none⟩)) (w' := wi) (fun ρ hρ hc => ?_) (hK _ _ (Ext.refl _) (rfl))
   have r16 := (hρ (.tmp 16)).trans x16
   simp [execOp, go_sem, r16]
  |2, _ =>
   refine so rfl ?_
   intro fb wi hx hb hd K hK
   have x17 : fb.eval (.tmp 17) = .pointer (some ⟨w.heap.size, 0, none⟩) := hd 1 17 rfl (by kernel_rfl)
   have cf0 := (HBW.out.ext hx).cell 0
   simp only [List.getElem?_cons_zero] at cf0
   refine sv rfl (v := .bool s) (w' := wi) (fun ρ hρ hc => ?_) (hK _ _ (Ext.refl _) (rfl))
   have r17 := (hρ (.tmp 17)).trans x17
   simp [execOp, go_sem, r17, cf0]
  |3, _ =>
   refine so rfl ?_
   intro fb wi hx hb hd K hK
   have x3 : fb.eval (.tmp 3) = .pointer (some ⟨w.heap.size + 1, 0, none⟩) := hb 3 rfl
   refine sv rfl (v := .pointer (some ⟨w.heap.size + 1, 0, none⟩)) (w' := wi) (fun ρ hρ hc => ?_) (hK _ _ (Ext.refl _) (rfl))
   have r3 := (hρ (.tmp 3)).trans x3
   simp [execOp, go_sem, r3]
  |4, _ =>
   refine so rfl ?_
   intro fb wi hx hb hd K hK
   have x19 : fb.eval (.tmp 19) = .pointer (some ⟨w.heap.size + 1, 0, none⟩) := hd 3 19 rfl (by kernel_rfl)
   refine sv rfl (v := .pointer (some ⟨w.heap.size + 1, 0, none⟩)) (w' := wi) (fun ρ hρ hc => ?_) (hK _ _ (Ext.refl _) (rfl))
   have r19 := (hρ (.tmp 19)).trans x19
   simp [execOp, go_sem, r19]
  |5, _ =>
   refine so rfl ?_
   intro fb wi hx hb hd K hK
   have x20 : fb.eval (.tmp 20) = .pointer (some ⟨w.heap.size + 1, 0, none⟩) := hd 4 20 rfl (by kernel_rfl)
   have cf0 := (HBW'.out.ext hx).cell 0
   simp only [List.getElem?_cons_zero] at cf0
   refine sv rfl (v := .bool s') (w' := wi) (fun ρ hρ hc => ?_) (hK _ _ (Ext.refl _) (rfl))
   have r20 := (hρ (.tmp 20)).trans x20
   simp [execOp, go_sem, r20, cf0]
  |6, _ =>
   refine so rfl ?_
   intro fb wi hx hb hd K hK
   have x18 : fb.eval (.tmp 18) = .bool s := hd 2 18 rfl (by kernel_rfl)
   have x21 : fb.eval (.tmp 21) = .bool s' := hd 5 21 rfl (by kernel_rfl)
   refine sv rfl (v := .bool (s != s')) (w' := wi) (fun ρ hρ hc => ?_) (hK _ _ (Ext.refl _) (rfl))
   have r18 := (hρ (.tmp 18)).trans x18
   have r21 := (hρ (.tmp 21)).trans x21
   simp [execOp, go_sem, r18, r21]
   cases s <;> cases s' <;> rfl
  |7, _ =>
   refine so rfl ?_
   intro fb wi hx hb hd K hK
   have x2 : fb.eval (.tmp 2) = .pointer (some ⟨w.heap.size, 0, none⟩) := hb 2 rfl
   refine sv rfl (v := .pointer (some ⟨w.heap.size, 0, none⟩)) (w' := wi) (fun ρ hρ hc => ?_) (hK _ _ (Ext.refl _) (rfl))
   have r2 := (hρ (.tmp 2)).trans x2
   simp [execOp, go_sem, r2]
  |8, _ =>
   refine so rfl ?_
   intro fb wi hx hb hd K hK
   have x23 : fb.eval (.tmp 23) = .pointer (some ⟨w.heap.size, 0, none⟩) := hd 7 23 rfl (by kernel_rfl)
   refine sv rfl (v := .pointer (some ⟨w.heap.size, 1, none⟩)) (w' := wi) (fun ρ hρ hc => ?_) (hK _ _ (Ext.refl _) (rfl))
   have r23 := (hρ (.tmp 23)).trans x23
   simp [execOp, go_sem, r23]
  |9, _ =>
   refine so rfl ?_
   intro fb wi hx hb hd K hK
   have x24 : fb.eval (.tmp 24) = .pointer (some ⟨w.heap.size, 1, none⟩) := hd 8 24 rfl (by kernel_rfl)
   have cf0 := (HBW.out.ext hx).cell 1
   simp only [List.getElem?_cons_zero, List.getElem?_cons_succ] at cf0
   refine sv rfl (v := .slice A k c) (w' := wi) (fun ρ hρ hc => ?_) (hK _ _ (Ext.refl _) (HNW.out.ext hx))
   have r24 := (hρ (.tmp 24)).trans x24
   simp [execOp, go_sem, r24, cf0]
  |10, _ =>
   refine so rfl ?_
   intro fb wi hx hb hd K hK
   have x3 : fb.eval (.tmp 3) = .pointer (some ⟨w.heap.size + 1, 0, none⟩) := hb 3 rfl
   refine sv rfl (v := .pointer (some ⟨w.heap.size + 1, 2, none⟩)) (w' := wi) (fun ρ hρ hc => ?_) (hK _ _ (Ext.refl _) (rfl))
   have r3 := (hρ (.tmp 3)).trans x3
   simp [execOp, go_sem, r3]
  |11, _ =>
   refine so rfl ?_
   intro fb wi hx hb hd K hK
   have x26 : fb.eval (.tmp 26) = .pointer (some ⟨w.heap.size + 1, 2, none⟩) := hd 10 26 rfl (by kernel_rfl)
   have cf0 := (HBW'.out.ext hx).cell 2
   simp only [List.getElem?_cons_zero, List.getElem?_cons_succ] at cf0
   refine sv rfl (v := .slice A4 k4 c4) (w' := wi) (fun ρ hρ hc => ?_) (hK _ _ (Ext.refl _) (HDW'.out.ext hx))
   have r26 := (hρ (.tmp 26)).trans x26
   simp [execOp, go_sem, r26, cf0]
  |12, _ =>
   refine so rfl ?_
   intro fb wi hx hb hd K hK
   have y25 : IsN r.num.natAbs (fb.eval (.tmp 25)) wi := hd 9 25 rfl (by kernel_rfl)
   have y27 : IsN q.den (fb.eval (.tmp 27)) wi := hd 11 27 rfl (by kernel_rfl)
   refine sc rfl 129 [.tmp 25, .tmp 27] #[141, 141] rfl _ Tryz.func129 rfl (by decide +kernel) [fb.eval (.tmp 25), fb.eval (.tmp 27)] rfl (nmul_any _ _ _ _ wi y25 y27 HRB.out.nl HRB'.out.dl) (fun e w' h => rk hK h)
  |13, _ =>
   refine so rfl ?_
   intro fb wi hx hb hd K hK
   have x22 : fb.eval (.tmp 22) = .bool (s != s') := hd 6 22 rfl (by kernel_rfl)
   have y28 : IsN (r.num.natAbs * q.den) (fb.eval (.tmp 28)) wi := hd 12 28 rfl (by kernel_rfl)
   obtain ⟨A8, k8, c8, x28⟩ := NatAt.form y28
   replace y28 : NatAt wi (.slice A8 k8 c8) (r.num.natAbs * q.den) := x28 ▸ y28
   refine sv rfl (v := .agg #[.bool (s != s'), .slice A8 k8 c8]) (w' := wi) (fun ρ hρ hc => ?_) (hK _ _ (Ext.refl _) (⟨_, rfl, y28⟩))
   have r22 := (hρ (.tmp 22)).trans x22
   have r28 := (hρ (.tmp 28)).trans x28
   simp [execOp, go_sem, r22, r28]
  |14, _ =>
   refine so rfl ?_
   intro fb wi hx hb hd K hK
   refine sv rfl (v := .pointer (some ⟨wi.heap.size, 0, none⟩)) (w' := wi.alloc (.cells #[.bool false, .slice none 0 0] 143)) (fun ρ hρ hc => ?_) (hK _ _ ((Ext.refl _).alloc _) (⟨wi.heap.size, rfl, hx.size, Blk.new' rfl⟩))
   simp [execOp, go_sem]
  |n + 15, hn => exact absurd hn (by omega)
 ·skip
  have t6 : IsNew 143 W4.heap.size [.bool false, .slice none 0 0] (xs 14) w1 := hT 14 (by decide)
  have t29 : IsRaw (s != s') (r.num.natAbs * q.den) (xs 13) w1 := hT 13 (by decide)
  simp only [frOf, putAll, List.drop_succ_cons, List.drop_zero, List.setIfInBounds_toArray, List.set_cons_succ, List.set_cons_zero, Nat.zero_add, Nat.reduceAdd]
  obtain ⟨u29, q29, h29⟩ := t29
  obtain ⟨g5, q5, hg5, hb5⟩ := t6
  have HU := Lib.hid h29
  obtain ⟨A5, k5, c5, rfl⟩ := h29.form
  have HB5 := Lib.hid hb5; have HG5 := Lib.hid hg5; have HXX := Lib.hid hx
  have HX9 := Lib.hid (HX0.out.trans hx)
  rw [q29, q5]
  clear q29 q5 h29 hT
  have b0 := HB5.out.cell 0; have b1 := HB5.out.cell 1
  have f0 := HB5.out.frozen 0; have f1 := HB5.out.frozen 1
  simp only [List.getElem?_cons_succ, List.getElem?_cons_zero] at b0 b1
  obtain ⟨s9, hs⟩ : ∃ s9, s9 = (s != s') := ⟨_, rfl⟩
  rw [← hs]
  have HS := Lib.hid hs
  clear hs hg5 hb5 hx
  go_upto_region 5 with fail
  refine wp_at fun W3 hW3 => ?_
  have HX3 : Hid (Ext w W3) := by show Ext _ _; rw [hW3]; exact kext HX9.out (Nat.le_trans HX0.out.size HG5.out) (ks2 _ _ _ _)
  have HU3 : Hid (NatAt W3 (.slice A5 k5 c5) (r.num.natAbs * q.den)) := by show NatAt _ _ _; rw [hW3]; exact HU.out.other HB5.out rfl (ks2 _ _ _ _)
  have HB6 : Hid (Blk 143 W3 g5 [.bool s9, .slice A5 k5 c5]) := by show Blk _ _ _ _; rw [hW3]; exact (HB5.out.set 0 _).set 1 _
  have HBV : Hid (Blk 145 W3 (w.heap.size) [.bool s, .slice A k c, .slice A2 k2 c2]) := by show Blk _ _ _ _; rw [hW3]; exact (ks2 _ _ _ _).blk (HBW.out.ext HXX.out) (by show ¬ (_ = _); have := HBW.out.lt; have := HG5.out; omega)
  have HBV' : Hid (Blk 145 W3 (w.heap.size + 1) [.bool s', .slice A3 k3 c3, .slice A4 k4 c4]) := by show Blk _ _ _ _; rw [hW3]; exact (ks2 _ _ _ _).blk (HBW'.out.ext HXX.out) (by show ¬ (_ = _); have := HBW'.out.lt; have := HG5.out; omega)
  have HRV : Hid (Blk 145 W3 (w.heap.size + 1 + 1) [.bool false, .slice none 0 0, .slice none 0 0]) := by show Blk _ _ _ _; rw [hW3]; exact (ks2 _ _ _ _).blk (HRW.out.ext HXX.out) (by show ¬ (_ = _); have := HRW.out.lt; have := HG5.out; omega)
  clear hW3 b0 b1 f0 f1 HXX HB5 HX9 HBW HBW' HRW HX0 HU
  have HX0 := HX3; have HBW := HBV; have HBW' := HBV'; have HRW := HRV
  have HNW := Lib.hid (HN.out.ext HX0.out); have HDW := Lib.hid (HD.out.ext HX0.out); have HNW' := Lib.hid (HN'.out.ext HX0.out); have HDW' := Lib.hid (HD'.out.ext HX0.out)
  refine region_slotsT (m := 2) (l := 8) (N := 38) (W0 := W3) [30, 31, 32, 33, 34, 35, 36, 37] [IsRaw s9 (r.num.natAbs * q.den), Fx (.pointer (some ⟨w.heap.size, 2, none⟩)), IsN r.den, Fx (.pointer (some ⟨w.heap.size + 1, 0, none⟩)), Fx (.pointer (some ⟨w.heap.size + 1, 1, none⟩)), IsN q.num.natAbs, IsN (r.den * q.num.natAbs), IsR (mkRat (sgI (s != s') (r.num.natAbs * q.den)) (r.den * q.num.natAbs))] (by kernel_rfl) (by omega) (by kernel_rfl) (by kernel_rfl) (by kernel_rfl) (Ext.refl _) ?kp (fun i hi => ?_) (fun xs w1 hx hT => ?_)
  case kp => exact ⟨IsRaw.kp _ _, Fx.kp _, IsN.kp _, Fx.kp _, Fx.kp _, IsN.kp _, IsN.kp _, IsR.kp _, trivial⟩
  ·match i, hi with
   |0, _ =>
    refine so rfl ?_
    intro fb wi hx hb hd K hK
    have x6 : fb.eval (.tmp 6) = .pointer (some ⟨g5, 0, none⟩) := hb 6 rfl
    have cf0 := (HB6.out.ext hx).cell 0
    have cf1 := (HB6.out.ext hx).cell 1
    simp only [List.getElem?_cons_zero, List.getElem?_cons_succ] at cf0 cf1
    refine sv rfl (v := .agg #[.bool s9, .slice A5 k5 c5]) (w' := wi) (fun ρ hρ hc => ?_) (hK _ _ (Ext.refl _) (⟨_, rfl, HU3.out.ext hx⟩))
    have r6 := (hρ (.tmp 6)).trans x6
    simp [execOp, go_sem, r6, cf0, cf1]
   |1, _ =>
    refine so rfl ?_
    intro fb wi hx hb hd K hK
    have x2 : fb.eval (.tmp 2) = .pointer (some ⟨w.heap.size, 0, none⟩) := hb 2 rfl
    refine sv rfl (v := .pointer (some ⟨w.heap.size, 2, none⟩)) (w' := wi) (fun ρ hρ hc => ?_) (hK _ _ (Ext.refl _) (rfl))
    have r2 := (hρ (.tmp 2)).trans x2
    simp [execOp, go_sem, r2]
   |2, _ =>
    refine so rfl ?_
    intro fb wi hx hb hd K hK
    have x31 : fb.eval (.tmp 31) = .pointer (some ⟨w.heap.size, 2, none⟩) := hd 1 31 rfl (by kernel_rfl)
    have cf0 := (HBW.out.ext hx).cell 2
    simp only [List.getElem?_cons_zero, List.getElem?_cons_succ] at cf0
    refine sv rfl (v := .slice A2 k2 c2) (w' := wi) (fun ρ hρ hc => ?_) (hK _ _ (Ext.refl _) (HDW.out.ext hx))
    have r31 := (hρ (.tmp 31)).trans x31
    simp [execOp, go_sem, r31, cf0]
   |3, _ =>
    refine so rfl ?_
    intro fb wi hx hb hd K hK
    have x3 : fb.eval (.tmp 3) = .pointer (some ⟨w.heap.size + 1, 0, none⟩) := hb 3 rfl
    refine sv rfl (v := .pointer (some ⟨w.heap.size + 1, 0, none⟩)) (w' := wi) (fun ρ hρ hc => ?_) (hK _ _ (Ext.refl _) (rfl))
    have r3 := (hρ (.tmp 3)).trans x3
    simp [execOp, go_sem, r3]
   |4, _ =>
    refine so rfl ?_
    intro fb wi hx hb hd K hK
    have x33 : fb.eval (.tmp 33) = .pointer (some ⟨w.heap.size + 1, 0, none⟩) := hd 3 33 rfl (by kernel_rfl)
    refine sv rfl (v := .pointer (some ⟨w.heap.size + 1, 1, none⟩)) (w' := wi) (fun ρ hρ hc => ?_) (hK _ _ (Ext.refl _) (rfl))
    have r33 := (hρ (.tmp 33)).trans x33
    simp [execOp, go_sem, r33]
   |5, _ =>
    refine so rfl ?_
    intro fb wi hx hb hd K hK
    have x34 : fb.eval (.tmp 34) = .pointer (some ⟨w.heap.size + 1, 1, none⟩) := hd 4 34 rfl (by kernel_rfl)
    have cf0 := (HBW'.out.ext hx).cell 1
    simp only [List.getElem?_cons_zero, List.getElem?_cons_succ] at cf0
    refine sv rfl (v := .slice A3 k3 c3) (w' := wi) (fun ρ hρ hc => ?_) (hK _ _ (Ext.refl _) (HNW'.out.ext hx))
    have r34 := (hρ (.tmp 34)).trans x34
    simp [execOp, go_sem, r34, cf0]
   |6, _ =>
    refine so rfl ?_
    intro fb wi hx hb hd K hK
    have y32 : IsN r.den (fb.eval (.tmp 32)) wi := hd 2 32 rfl (by kernel_rfl)
    have y35 : IsN q.num.natAbs (fb.eval (.tmp 35)) wi := hd 5 35 rfl (by kernel_rfl)
    refine sc rfl 129 [.tmp 32, .tmp 35] #[141, 141] rfl _ Tryz.func129 rfl (by decide +kernel) [fb.eval (.tmp 32), fb.eval (.tmp 35)] rfl (nmul_any _ _ _ _ wi y32 y35 HRB.out.dl HRB'.out.nl) (fun e w' h => rk hK h)
   |7, _ =>
    refine so rfl ?_
    intro fb wi hx hb hd K hK
    have y30 : IsRaw s9 (r.num.natAbs * q.den) (fb.eval (.tmp 30)) wi := hd 0 30 rfl (by kernel_rfl)
    have y36 : IsN (r.den * q.num.natAbs) (fb.eval (.tmp 36)) wi := hd 6 36 rfl (by kernel_rfl)
    refine sc rfl 130 [.tmp 30, .tmp 36] #[143, 141] rfl _ Tryz.func130 rfl (by decide +kernel) [fb.eval (.tmp 30), fb.eval (.tmp 36)] rfl (by have h := reduce_any _ _ _ _ _ wi y30 y36 ((HRB.out.n.mul HRB'.out.d).len (by omega)) (Nat.mul_ne_zero r.den_nz (fun e => HQ.out (Int.natAbs_eq_zero.1 e))) HDB.out; rw [HS.out] at h; exact h) (fun e w' h => rk hK h)
   |n + 8, hn => exact absurd hn (by omega)
  ·skip
   have t37 : IsR (mkRat (sgI (s != s') (r.num.natAbs * q.den)) (r.den * q.num.natAbs)) (xs 7) w1 := hT 7 (by decide)
   simp only [frOf, putAll, List.drop_succ_cons, List.drop_zero, List.setIfInBounds_toArray, List.set_cons_succ, List.set_cons_zero, Nat.zero_add, Nat.reduceAdd]
   obtain ⟨u37, d37, q37, h37, g37⟩ := t37
   have HU := Lib.hid h37; have HD := Lib.hid g37
   obtain ⟨A7, k7, c7, rfl⟩ := h37.form
   obtain ⟨A6, k6, c6, rfl⟩ := g37.form
   have HB9 := Lib.hid (HRW.out.ext hx)
   have HX9 := Lib.hid (HX0.out.trans hx)
   rw [q37]
   clear q37 h37 g37 hT
   have b0 := HB9.out.cell 0; have b1 := HB9.out.cell 1; have b2 := HB9.out.cell 2
   have f0 := HB9.out.frozen 0; have f1 := HB9.out.frozen 1; have f2 := HB9.out.frozen 2
   simp only [List.getElem?_cons_succ, List.getElem?_cons_zero] at b0 b1 b2
   obtain ⟨s8, hs⟩ : ∃ sg_, sg_ = negI (mkRat (sgI (s != s') (r.num.natAbs * q.den)) (r.den * q.num.natAbs)).num := ⟨_, rfl⟩
   rw [← hs]
   have HS8 := Lib.hid hs
   clear hs
   go_wp2_with fail
   refine bodyPost_ret (v := .tuple #[.agg #[.bool s8, .slice A7 k7 c7, .slice A6 k6 c6], .bool true]) (by simp [results, Tryz.results106, go_sem, b0, b1, b2]) rfl ?_
   exact ⟨_, rfl, ⟨_, rfl, ⟨_, _, by rw [HS8.out], HU.out.other HB9.out rfl (ks3 _ _ _ _ _), HD.out.other HB9.out rfl (ks3 _ _ _ _ _)⟩⟩, kext HX9.out (by omega) (ks3 _ _ _ _ _)⟩
end Go.Proofs.YtfegbaokcbjllaaGreat
