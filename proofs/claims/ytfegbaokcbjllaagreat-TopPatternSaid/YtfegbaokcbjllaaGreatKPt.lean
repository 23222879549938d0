/- point: Of, Sub, Add, Scale, Cross, On. Written by genpt.py. -/
import Derived.Test.YtfegbaokcbjllaaGreatKRat2
/- ratio: Div by 0, Of, Round. Written by genrat3.py. -/
namespace Go.Proofs.YtfegbaokcbjllaaGreat
open Go.RowKit
set_option maxRecDepth 100000 in
set_option maxHeartbeats 3200000 in
theorem rdiv0_any (r q : Rat) (v v' : Value) (w : World) (h : IsR r v w) (h' : IsR q v' w) (hb : RB r) (hb' : RB q) (hq : q.num = 0) : Calls Tryz.prog 106 #[v, v'] w (fun e w' => e = .returned (.tuple #[.agg #[.bool false, .slice none 0 0, .slice none 0 0], .bool false]) ∧ Ext w w') := by
 have HQ := Lib.hid hq
 clear hq
 have HA := Lib.hid h; have HA' := Lib.hid h'
 have HRB := Lib.hid hb; have HRB' := Lib.hid hb'
 obtain ⟨u, d, rfl, h1, h2⟩ := h
 obtain ⟨u', d', rfl, h3, h4⟩ := h'
 have HN := Lib.hid h1; have HD := Lib.hid h2; have HN' := Lib.hid h3; have HD' := Lib.hid h4
 obtain ⟨A, k, c, rfl⟩ := h1.form
 obtain ⟨A2, k2, c2, rfl⟩ := h2.form
 obtain ⟨A3, k3, c3, rfl⟩ := h3.form
 obtain ⟨A4, k4, c4, rfl⟩ := h4.form
 clear h1 h2 h3 h4 hb hb'
 have HSG : Hid (sgI (negI r.num) r.num.natAbs = r.num) := sgI_negI _
 have HSG' : Hid (sgI (negI q.num) q.num.natAbs = q.num) := sgI_negI _
 obtain ⟨s, hs⟩ : ∃ s, s = negI r.num := ⟨_, rfl⟩
 rw [← hs] at HA HSG ⊢
 obtain ⟨s', hs'⟩ : ∃ s, s = negI q.num := ⟨_, rfl⟩
 rw [← hs'] at HA' HSG' ⊢
 have HSE := Lib.hid hs; have HSE' := Lib.hid hs'
 clear hs hs'
 go_enter Tryz.func106, Tryz.ntmps106
 go_upto_region 1 with fail
 refine wp_at fun W0 hW0 => ?_
 have HX0 : Hid (Ext w W0) := by show Ext _ _; rw [hW0]; exact (((Ext.refl _).alloc _).alloc _).alloc _
 have HB1 : Hid (Blk 145 W0 (w.heap.size) [.bool s, .slice A k c, .slice A2 k2 c2]) := by show Blk _ _ _ _; rw [hW0]; exact ((Blk.new' rfl).ext ((Ext.refl _).alloc _)).ext ((Ext.refl _).alloc _)
 have HB2 : Hid (Blk 145 W0 (w.heap.size + 1) [.bool s', .slice A3 k3 c3, .slice A4 k4 c4]) := by show Blk _ _ _ _; rw [hW0]; exact (Blk.new' (by simp)).ext ((Ext.refl _).alloc _)
 have HR0 : Hid (Blk 145 W0 (w.heap.size + 1 + 1) [.bool false, .slice none 0 0, .slice none 0 0]) := by show Blk _ _ _ _; rw [hW0]; exact Blk.new' (by simp)
 have HAW := Lib.hid (HA.out.ext HX0.out); have HAW' := Lib.hid (HA'.out.ext HX0.out)
 clear hW0
 obtain ⟨b10, b11, b12⟩ := blk3c HB1.out; obtain ⟨b20, b21, b22⟩ := blk3c HB2.out
 have d0 := fun z : After W0 => After.cell b10 z; have d1 := fun z : After W0 => After.cell b11 z; have d2 := fun z : After W0 => After.cell b12 z
 have d3 := fun z : After W0 => After.cell b20 z; have d4 := fun z : After W0 => After.cell b21 z; have d5 := fun z : After W0 => After.cell b22 z
 clear b10 b11 b12 b20 b21 b22
 refine region_tail 4 (by kernel_rfl) (by kernel_rfl) ?_
 simp only [List.take_succ_cons, List.take_zero, List.drop_succ_cons, List.drop_zero]
 repeat (go_big_quiet_step ((go_at_call 120; first | exact after_call (value_any r _ _ (HAW.out.ext (After.ext _))) | exact after_call (value_any q _ _ (HAW'.out.ext (After.ext _))))))
 refine wpQuiet_nil ?_
 rintro w1 ⟨⟨_, he⟩, rfl⟩
 clear d0 d1 d2 d3 d4 d5
 obtain ⟨b10, b11, b12⟩ := blk3c (HB1.out.ext he); obtain ⟨b20, b21, b22⟩ := blk3c (HB2.out.ext he)
 have f10 := (HB1.out.ext he).frozen 0; have f11 := (HB1.out.ext he).frozen 1; have f12 := (HB1.out.ext he).frozen 2
 have f20 := (HB2.out.ext he).frozen 0; have f21 := (HB2.out.ext he).frozen 1; have f22 := (HB2.out.ext he).frozen 2
 have HE := Lib.hid he
 clear he
 go_upto_region 2 with fail
 refine wp_at fun W2 hW2 => ?_
 have hx1 := HX0.out.trans HE.out
 have HX2 : Hid (Ext w W2) := by show Ext _ _; rw [hW2]; exact kext (kext hx1 (Nat.le_refl _) (ks3 _ _ _ _ _)) (Nat.le_succ _) (ks3 _ _ _ _ _)
 have HBW : Hid (Blk 145 W2 (w.heap.size) [.bool s, .slice A k c, .slice A2 k2 c2]) := by show Blk _ _ _ _; rw [hW2]; exact (ks3 _ _ _ _ _).blk ((((HB1.out.ext HE.out).set 0 _).set 1 _).set 2 _) (by simp)
 have HBW' : Hid (Blk 145 W2 (w.heap.size + 1) [.bool s', .slice A3 k3 c3, .slice A4 k4 c4]) := by show Blk _ _ _ _; rw [hW2]; exact ((((ks3 _ _ _ _ _).blk (HB2.out.ext HE.out) (by simp)).set 0 _).set 1 _).set 2 _
 have HRW : Hid (Blk 145 W2 (w.heap.size + 1 + 1) [.bool false, .slice none 0 0, .slice none 0 0]) := by show Blk _ _ _ _; rw [hW2]; exact (ks3 _ _ _ _ _).blk ((ks3 _ _ _ _ _).blk (HR0.out.ext HE.out) (by show ¬ (w.heap.size + 1 + 1 = w.heap.size); omega)) (by simp)
 clear hW2 b10 b11 b12 b20 b21 b22 f10 f11 f12 f20 f21 f22 hx1 HX0 HE HB1 HB2 HR0
 have HX0 := HX2
 have HNW := Lib.hid (HN.out.ext HX0.out); have HDW := Lib.hid (HD.out.ext HX0.out); have HNW' := Lib.hid (HN'.out.ext HX0.out); have HDW' := Lib.hid (HD'.out.ext HX0.out)
 obtain ⟨_, c1x, _⟩ := blk3c HBW'.out
 have hqz : decide (q.num.natAbs = 0) = true := decide_eq_true (by rw [HQ.out]; rfl)
 go_wp2_with fail
 refine (zero_any _ q.num.natAbs _ HNW'.out).mono ?_
 rintro e w3 ⟨rfl, he3⟩
 rw [hqz]
 clear hqz c1x
 have HR3 := Lib.hid (HRW.out.ext he3)
 have HX3 := Lib.hid (HX0.out.trans he3)
 obtain ⟨c0, c1, c2⟩ := blk3c HR3.out
 obtain ⟨f0, f1, f2⟩ := blk3f HR3.out
 go_wp2_with fail
 refine bodyPost_ret (v := .tuple #[.agg #[.bool false, .slice none 0 0, .slice none 0 0], .bool false]) (by simp [results, Tryz.results106, go_sem, c0, c1, c2]) rfl ?_
 exact ⟨rfl, kext HX3.out (by omega) (ks3 _ _ _ _ _)⟩
set_option maxRecDepth 100000 in
set_option maxHeartbeats 3200000 in
theorem rof_any (z : Int) (w : World) (h0 : -9223372036854775808 ≤ z) (h1 : z ≤ 9223372036854775807) : Calls Tryz.prog 134 #[.int .i64 z, .int .i64 1] w (Ret (IsOk (IsR (z : Rat))) w) := by
 have HI := Lib.hid (fun W => iof_any z W h0 h1)
 have HI1 := Lib.hid (fun W => iof_any 1 W (by omega) (by omega))
 have HZL : Hid ((limbs z.natAbs).length ≤ 1000) := Nat.le_trans (limbs_le (k := 2) (show z.natAbs < 4294967296 ^ 2 by omega)) (by omega)
 have HE : Hid (mkRat z 1 = (z : Rat)) := Rat.mkRat_one _
 clear h0 h1
 go_enter Tryz.func134, Tryz.ntmps134
 go_wp2_with fail
 refine (HI.out _).mono ?_
 rintro e w1 ⟨v1, rfl, ⟨u1, rfl, hu1⟩, he1⟩
 have HX1 : Hid (Ext w w1) := ((Ext.refl _).alloc _).trans he1
 have HR1 : Hid (Blk 145 w1 w.heap.size [.bool false, .slice none 0 0, .slice none 0 0]) := (Blk.new' rfl).ext he1
 have HU1 := Lib.hid hu1
 obtain ⟨A, k, c, rfl⟩ := hu1.form
 obtain ⟨s, hs⟩ : ∃ s, s = negI z := ⟨_, rfl⟩
 rw [← hs]
 have HS := Lib.hid hs
 clear hu1 he1 HI hs
 go_wp2_with fail
 refine (HI1.out _).mono ?_
 rintro e w2 ⟨v2, rfl, ⟨u2, rfl, hu2⟩, he2⟩
 rw [show negI 1 = false from rfl]
 have HX2 := Lib.hid (HX1.out.trans he2)
 have HR2 := Lib.hid (HR1.out.ext he2)
 have HU2 := Lib.hid hu2; have HUA := Lib.hid (HU1.out.ext he2)
 obtain ⟨A2, k2, c2, rfl⟩ := hu2.form
 clear hu2 he2 HI1 HX1 HR1 HU1
 go_wp2_with fail
 have hrd := reduce_any s z.natAbs 1 (.agg #[.bool s, .slice A k c]) (.slice A2 k2 c2) ((w2.alloc (.cells #[.bool s, .slice A k c] 143)).alloc (.cells #[.bool false, .slice A2 k2 c2] 143)) ⟨_, rfl, HUA.out.ext (((Ext.refl _).alloc _).alloc _)⟩ (HU2.out.ext (((Ext.refl _).alloc _).alloc _)) HZL.out (by omega) (by unfold DB; omega)
 rw [HS.out, sgI_negI, HE.out, ← HS.out] at hrd
 refine hrd.mono ?_
 clear hrd
 rintro e w3 ⟨v3, rfl, ⟨u3, d3, rfl, hu3, hd3⟩, he3⟩
 have HX3 : Hid (Ext w w3) := HX2.out.trans ((((Ext.refl _).alloc _).alloc _).trans he3)
 have HR3 : Hid (Blk 145 w3 w.heap.size [.bool false, .slice none 0 0, .slice none 0 0]) := HR2.out.ext ((((Ext.refl _).alloc _).alloc _).trans he3)
 have HU3 := Lib.hid hu3; have HD3 := Lib.hid hd3
 obtain ⟨A5, k5, c5, rfl⟩ := hu3.form
 obtain ⟨A6, k6, c6, rfl⟩ := hd3.form
 obtain ⟨s9, hs⟩ : ∃ s9, s9 = negI (z : Rat).num := ⟨_, rfl⟩
 rw [← hs]
 have HS9 := Lib.hid hs
 clear hu3 hd3 he3 hs
 obtain ⟨b0, b1, b2⟩ := blk3c HR3.out
 obtain ⟨f0, f1, f2⟩ := blk3f HR3.out
 go_wp2_with fail
 refine bodyPost_ret (v := .tuple #[.agg #[.bool s9, .slice A5 k5 c5, .slice A6 k6 c6], .bool true]) (by simp [results, Tryz.results134, go_sem, b0, b1, b2]) rfl ?_
 exact ⟨_, rfl, ⟨_, rfl, ⟨_, _, by rw [HS9.out], HU3.out.other HR3.out rfl (ks3 _ _ _ _ _), HD3.out.other HR3.out rfl (ks3 _ _ _ _ _)⟩⟩, kext HX3.out (Nat.le_refl _) (ks3 _ _ _ _ _)⟩
/- rounded, halves away from zero -/
def rndZ (r : Rat) : Int := sgI (negI r.num) ((2 * r.num.natAbs + r.den) / (2 * r.den))
def IsDv (x y : Nat) : Value → World → Prop := fun v w => ∃ q r, v = .tuple #[q, r, .bool true] ∧ NatAt w q (x / y) ∧ NatAt w r (x % y)
theorem IsDv.kp (x y : Nat) : Kp (IsDv x y) := fun v w w' he h => by
 obtain ⟨q, r, h1, h2, h3⟩ := h; exact ⟨q, r, h1, h2.ext he, h3.ext he⟩
theorem retDv {w w' : World} {x y : Nat} {e : Ending} (h : RetDv w x y e w') : Ret (IsDv x y) w e w' := by
 obtain ⟨q, r, h1, h2, h3, h4⟩ := h; exact ⟨_, h1, ⟨q, r, rfl, h2, h3⟩, h4⟩
theorem ndiv_ret (u v : Value) (x y : Nat) (w : World) (hu : NatAt w u x) (hv : NatAt w v y) (hx : (limbs x).length ≤ 1000) (hy0 : 0 < y) (hy : y < DB) : Calls Tryz.prog 148 #[u, v] w (Ret (IsDv x y) w) := (ndiv_db u v x y w hu hv hx hy0 hy).mono fun _ _ h => retDv h
set_option maxRecDepth 100000 in
set_option maxHeartbeats 3200000 in
theorem rrndz_any (r : Rat) (v : Value) (w : World) (h : IsR r v w) (hb : RB r) (hd : r.den + r.den < DB) : Calls Tryz.prog 136 #[v] w (Ret (IsZ (rndZ r)) w) := by
 have HV := Lib.hid (fun W (he : Ext w W) => value_any r v W (h.ext he))
 have HRB := Lib.hid hb; have HDB := Lib.hid hd
 obtain ⟨u, d, rfl, h1, h2⟩ := h
 have HN := Lib.hid h1; have HD := Lib.hid h2
 obtain ⟨A, k, c, rfl⟩ := h1.form
 obtain ⟨A2, k2, c2, rfl⟩ := h2.form
 clear h1 h2 hb hd
 have HRZ : Hid (rndZ r = sgI (negI r.num) ((r.num.natAbs + r.num.natAbs + r.den) / (r.den + r.den))) := by
  show _ = _
  unfold rndZ
  rw [show 2 * r.num.natAbs + r.den = r.num.natAbs + r.num.natAbs + r.den by omega, show 2 * r.den = r.den + r.den by omega]
 have HS3 : Hid ((limbs (r.num.natAbs + r.num.natAbs)).length ≤ 1000) := (HRB.out.n.add HRB.out.n).len (by omega)
 have HS4 : Hid ((limbs (r.num.natAbs + r.num.natAbs + r.den)).length ≤ 1000) := ((HRB.out.n.add HRB.out.n).add (HRB.out.d.mono (by omega))).len (by omega)
 rw [HRZ.out]
 obtain ⟨s, hs⟩ : ∃ s, s = negI r.num := ⟨_, rfl⟩
 rw [← hs] at HV HRZ ⊢
 clear hs
 go_enter Tryz.func136, Tryz.ntmps136
 go_wp2_with fail
 refine (HV.out _ (((Ext.refl _).alloc _).alloc _)).mono ?_
 rintro e w1 ⟨rfl, he1⟩
 have HX1 : Hid (Ext w w1) := (((Ext.refl _).alloc _).alloc _).trans he1
 have HB1 : Hid (Blk 145 w1 w.heap.size [.bool s, .slice A k c, .slice A2 k2 c2]) := ((Blk.new' rfl).ext ((Ext.refl _).alloc _)).ext he1
 have HR1 : Hid (Blk 143 w1 (w.heap.size + 1) [.bool false, .slice none 0 0]) := (Blk.new' (by simp)).ext he1
 clear he1 HV
 obtain ⟨b0, b1, b2⟩ := blk3c HB1.out
 obtain ⟨f0, f1, f2⟩ := blk3f HB1.out
 go_upto_region 2 with fail
 refine wp_at fun W0 hW0 => ?_
 have HX0 : Hid (Ext w W0) := by show Ext _ _; rw [hW0]; exact kext HX1.out (Nat.le_refl _) (ks3 _ _ _ _ _)
 have HBW : Hid (Blk 145 W0 w.heap.size [.bool s, .slice A k c, .slice A2 k2 c2]) := by show Blk _ _ _ _; rw [hW0]; exact ((HB1.out.set 0 _).set 1 _).set 2 _
 have HRW : Hid (Blk 143 W0 (w.heap.size + 1) [.bool false, .slice none 0 0]) := by show Blk _ _ _ _; rw [hW0]; exact (ks3 _ _ _ _ _).blk HR1.out (by simp)
 have HNW := Lib.hid (HN.out.ext HX0.out); have HDW := Lib.hid (HD.out.ext HX0.out)
 clear hW0 b0 b1 b2 f0 f1 f2 HX1 HB1 HR1
 obtain ⟨b0, b1, b2⟩ := blk3c HBW.out
 go_wp2_with fail
 refine (nadd_any _ _ _ _ _ HNW.out HNW.out HRB.out.nl HRB.out.nl).mono ?_
 rintro e w2 ⟨v2, rfl, hv2, he2⟩
 have HV2 := Lib.hid hv2
 obtain ⟨A3, k3, c3, rfl⟩ := hv2.form
 clear hv2 b0 b1 b2
 go_upto_region 3 with fail
 refine wp_at fun W3 hW3 => ?_
 have he3 : Ext W0 W3 := by rw [hW3]; exact he2
 have HT3 : Hid (NatAt W3 (.slice A3 k3 c3) (r.num.natAbs + r.num.natAbs)) := by show NatAt _ _ _; rw [hW3]; exact HV2.out
 have HX3 := Lib.hid (HX0.out.trans he3)
 have HBV := Lib.hid (HBW.out.ext he3); have HRV := Lib.hid (HRW.out.ext he3); have HDV := Lib.hid (HDW.out.ext he3)
 clear hW3 he2 he3 HX0 HBW HRW HNW HDW HV2
 have HX0 := HX3; have HBW := HBV; have HRW := HRV; have HDW := HDV
 clear HX3 HBV HRV HDV
 refine region_slotsT (m := 1) (l := 16) (N := 36) (W0 := W3) [17, 18, 19, 20, 21, 22, 23, 24, 25, 26, 16, 27, 28, 29, 4, 5] [IsN (r.num.natAbs + r.num.natAbs), Fx (.pointer (some ⟨w.heap.size, 2, none⟩)), IsN r.den, IsN (r.num.natAbs + r.num.natAbs + r.den), Fx (.pointer (some ⟨w.heap.size, 2, none⟩)), IsN r.den, Fx (.pointer (some ⟨w.heap.size, 2, none⟩)), IsN r.den, IsN (r.den + r.den), IsDv (r.num.natAbs + r.num.natAbs + r.den) (r.den + r.den), IsDv (r.num.natAbs + r.num.natAbs + r.den) (r.den + r.den), IsN ((r.num.natAbs + r.num.natAbs + r.den) / (r.den + r.den)), IsN ((r.num.natAbs + r.num.natAbs + r.den) % (r.den + r.den)), Fx (.bool true), IsN ((r.num.natAbs + r.num.natAbs + r.den) / (r.den + r.den)), IsN ((r.num.natAbs + r.num.natAbs + r.den) % (r.den + r.den))] (by kernel_rfl) (by omega) (by kernel_rfl) (by kernel_rfl) (by kernel_rfl) (Ext.refl _) ?kp (fun i hi => ?_) (fun xs w1 hx hT => ?_)
 case kp => exact ⟨IsN.kp _, Fx.kp _, IsN.kp _, IsN.kp _, Fx.kp _, IsN.kp _, Fx.kp _, IsN.kp _, IsN.kp _, IsDv.kp _ _, IsDv.kp _ _, IsN.kp _, IsN.kp _, Fx.kp _, IsN.kp _, IsN.kp _, trivial⟩
 ·match i, hi with
  |0, _ =>
   refine so rfl ?_
   intro fb wi hx hb hd K hK
   have x3 : fb.eval (.tmp 3) = .slice A3 k3 c3 := hb 3 rfl
   refine sv rfl (v := .slice A3 k3 c3) (w' := wi) (fun ρ hρ hc => ?_) (hK _ _ (Ext.refl _) (HT3.out.ext hx))
   have r3 := (hρ (.tmp 3)).trans x3
   simp [execOp, go_sem, r3]
  |1, _ =>
   refine so rfl ?_
   intro fb wi hx hb hd K hK
   have x1 : fb.eval (.tmp 1) = .pointer (some ⟨w.heap.size, 0, none⟩) := hb 1 rfl
   refine sv rfl (v := .pointer (some ⟨w.heap.size, 2, none⟩)) (w' := wi) (fun ρ hρ hc => ?_) (hK _ _ (Ext.refl _) (rfl))
   have r1 := (hρ (.tmp 1)).trans x1
   simp [execOp, go_sem, r1]
  |2, _ =>
   refine so rfl ?_
   intro fb wi hx hb hd K hK
   have x18 : fb.eval (.tmp 18) = .pointer (some ⟨w.heap.size, 2, none⟩) := hd 1 18 rfl (by kernel_rfl)
   have cf0 := (HBW.out.ext hx).cell 2
   simp only [List.getElem?_cons_zero, List.getElem?_cons_succ] at cf0
   refine sv rfl (v := .slice A2 k2 c2) (w' := wi) (fun ρ hρ hc => ?_) (hK _ _ (Ext.refl _) (HDW.out.ext hx))
   have r18 := (hρ (.tmp 18)).trans x18
   simp [execOp, go_sem, r18, cf0]
  |3, _ =>
   refine so rfl ?_
   intro fb wi hx hb hd K hK
   have y17 : IsN (r.num.natAbs + r.num.natAbs) (fb.eval (.tmp 17)) wi := hd 0 17 rfl (by kernel_rfl)
   have y19 : IsN r.den (fb.eval (.tmp 19)) wi := hd 2 19 rfl (by kernel_rfl)
   refine sc rfl 150 [.tmp 17, .tmp 19] #[141, 141] rfl _ Tryz.func150 rfl (by decide +kernel) [fb.eval (.tmp 17), fb.eval (.tmp 19)] rfl (nadd_any _ _ _ _ wi y17 y19 HS3.out HRB.out.dl) (fun e w' h => rk hK h)
  |4, _ =>
   refine so rfl ?_
   intro fb wi hx hb hd K hK
   have x1 : fb.eval (.tmp 1) = .pointer (some ⟨w.heap.size, 0, none⟩) := hb 1 rfl
   refine sv rfl (v := .pointer (some ⟨w.heap.size, 2, none⟩)) (w' := wi) (fun ρ hρ hc => ?_) (hK _ _ (Ext.refl _) (rfl))
   have r1 := (hρ (.tmp 1)).trans x1
   simp [execOp, go_sem, r1]
  |5, _ =>
   refine so rfl ?_
   intro fb wi hx hb hd K hK
   have x21 : fb.eval (.tmp 21) = .pointer (some ⟨w.heap.size, 2, none⟩) := hd 4 21 rfl (by kernel_rfl)
   have cf0 := (HBW.out.ext hx).cell 2
   simp only [List.getElem?_cons_zero, List.getElem?_cons_succ] at cf0
   refine sv rfl (v := .slice A2 k2 c2) (w' := wi) (fun ρ hρ hc => ?_) (hK _ _ (Ext.refl _) (HDW.out.ext hx))
   have r21 := (hρ (.tmp 21)).trans x21
   simp [execOp, go_sem, r21, cf0]
  |6, _ =>
   refine so rfl ?_
   intro fb wi hx hb hd K hK
   have x1 : fb.eval (.tmp 1) = .pointer (some ⟨w.heap.size, 0, none⟩) := hb 1 rfl
   refine sv rfl (v := .pointer (some ⟨w.heap.size, 2, none⟩)) (w' := wi) (fun ρ hρ hc => ?_) (hK _ _ (Ext.refl _) (rfl))
   have r1 := (hρ (.tmp 1)).trans x1
   simp [execOp, go_sem, r1]
  |7, _ =>
   refine so rfl ?_
   intro fb wi hx hb hd K hK
   have x23 : fb.eval (.tmp 23) = .pointer (some ⟨w.heap.size, 2, none⟩) := hd 6 23 rfl (by kernel_rfl)
   have cf0 := (HBW.out.ext hx).cell 2
   simp only [List.getElem?_cons_zero, List.getElem?_cons_succ] at cf0
   refine sv rfl (v := .slice A2 k2 c2) (w' := wi) (fun ρ hρ hc => ?_) (hK _ _ (Ext.refl _) (HDW.out.ext hx))
   have r23 := (hρ (.tmp 23)).trans x23
   simp [execOp, go_sem, r23, cf0]
  |8, _ =>
   refine so rfl ?_
   intro fb wi hx hb hd K hK
   have y22 : IsN r.den (fb.eval (.tmp 22)) wi := hd 5 22 rfl (by kernel_rfl)
   have y24 : IsN r.den (fb.eval (.tmp 24)) wi := hd 7 24 rfl (by kernel_rfl)
   refine sc rfl 150 [.tmp 22, .tmp 24] #[141, 141] rfl _ Tryz.func150 rfl (by decide +kernel) [fb.eval (.tmp 22), fb.eval (.tmp 24)] rfl (nadd_any _ _ _ _ wi y22 y24 HRB.out.dl HRB.out.dl) (fun e w' h => rk hK h)
  |9, _ =>
   refine so rfl ?_
   intro fb wi hx hb hd K hK
   have y20 : IsN (r.num.natAbs + r.num.natAbs + r.den) (fb.eval (.tmp 20)) wi := hd 3 20 rfl (by kernel_rfl)
   have y25 : IsN (r.den + r.den) (fb.eval (.tmp 25)) wi := hd 8 25 rfl (by kernel_rfl)
   refine sc rfl 148 [.tmp 20, .tmp 25] #[141, 141] rfl _ Tryz.func148 rfl (by decide +kernel) [fb.eval (.tmp 20), fb.eval (.tmp 25)] rfl (ndiv_ret _ _ _ _ wi y20 y25 HS4.out (by have := r.den_pos; omega) HDB.out) (fun e w' h => rk hK h)
  |10, _ =>
   refine so rfl ?_
   intro fb wi hx hb hd K hK
   have y26 : IsDv (r.num.natAbs + r.num.natAbs + r.den) (r.den + r.den) (fb.eval (.tmp 26)) wi := hd 9 26 rfl (by kernel_rfl)
   refine sv rfl (v := fb.eval (.tmp 26)) (w' := wi) (fun ρ hρ hc => ?_) (hK _ _ (Ext.refl _) y26)
   simp [execOp, go_sem, hρ (.tmp 26)]
  |11, _ =>
   refine so rfl ?_
   intro fb wi hx hb hd K hK
   have y16 : IsDv (r.num.natAbs + r.num.natAbs + r.den) (r.den + r.den) (fb.eval (.tmp 16)) wi := hd 10 16 rfl (by kernel_rfl)
   obtain ⟨q16, r16, x16, hq16, hr16⟩ := y16
   refine sv rfl (v := q16) (w' := wi) (fun ρ hρ hc => ?_) (hK _ _ (Ext.refl _) (hq16))
   have r16 := (hρ (.tmp 16)).trans x16
   simp [execOp, go_sem, r16]
  |12, _ =>
   refine so rfl ?_
   intro fb wi hx hb hd K hK
   have y16 : IsDv (r.num.natAbs + r.num.natAbs + r.den) (r.den + r.den) (fb.eval (.tmp 16)) wi := hd 10 16 rfl (by kernel_rfl)
   obtain ⟨q16, r16, x16, hq16, hr16⟩ := y16
   refine sv rfl (v := r16) (w' := wi) (fun ρ hρ hc => ?_) (hK _ _ (Ext.refl _) (hr16))
   have r16 := (hρ (.tmp 16)).trans x16
   simp [execOp, go_sem, r16]
  |13, _ =>
   refine so rfl ?_
   intro fb wi hx hb hd K hK
   have y16 : IsDv (r.num.natAbs + r.num.natAbs + r.den) (r.den + r.den) (fb.eval (.tmp 16)) wi := hd 10 16 rfl (by kernel_rfl)
   obtain ⟨q16, r16, x16, hq16, hr16⟩ := y16
   refine sv rfl (v := .bool true) (w' := wi) (fun ρ hρ hc => ?_) (hK _ _ (Ext.refl _) (rfl))
   have r16 := (hρ (.tmp 16)).trans x16
   simp [execOp, go_sem, r16]
  |14, _ =>
   refine so rfl ?_
   intro fb wi hx hb hd K hK
   have y27 : IsN ((r.num.natAbs + r.num.natAbs + r.den) / (r.den + r.den)) (fb.eval (.tmp 27)) wi := hd 11 27 rfl (by kernel_rfl)
   refine sv rfl (v := fb.eval (.tmp 27)) (w' := wi) (fun ρ hρ hc => ?_) (hK _ _ (Ext.refl _) y27)
   simp [execOp, go_sem, hρ (.tmp 27)]
  |15, _ =>
   refine so rfl ?_
   intro fb wi hx hb hd K hK
   have y28 : IsN ((r.num.natAbs + r.num.natAbs + r.den) % (r.den + r.den)) (fb.eval (.tmp 28)) wi := hd 12 28 rfl (by kernel_rfl)
   refine sv rfl (v := fb.eval (.tmp 28)) (w' := wi) (fun ρ hρ hc => ?_) (hK _ _ (Ext.refl _) y28)
   simp [execOp, go_sem, hρ (.tmp 28)]
  |n + 16, hn => exact absurd hn (by omega)
 ·skip
  have t29 : Fx (.bool true) (xs 13) w1 := hT 13 (by decide)
  simp only [frOf, putAll, List.drop_succ_cons, List.drop_zero, List.setIfInBounds_toArray, List.set_cons_succ, List.set_cons_zero, Nat.zero_add, Nat.reduceAdd]
  have t4 : IsN ((r.num.natAbs + r.num.natAbs + r.den) / (r.den + r.den)) (xs 14) w1 := hT 14 (by decide)
  have HQ := Lib.hid t4
  obtain ⟨A4, k4, c4, q27⟩ := NatAt.form t4
  have HX9 := Lib.hid (HX0.out.trans hx)
  have HR9 := Lib.hid (HRW.out.ext hx); have HB9 := Lib.hid (HBW.out.ext hx)
  rw [q27] at HQ ⊢
  clear q27 t4 hT
  obtain ⟨b0, _, _⟩ := blk3c HB9.out
  go_wp2_with fail
  refine (inorm_any s ((r.num.natAbs + r.num.natAbs + r.den) / (r.den + r.den)) _ w1 ⟨_, rfl, HQ.out⟩ (Nat.le_trans (limbs_mono (Nat.div_le_self _ _)) HS4.out)).mono ?_
  rintro e w5 ⟨v5, rfl, ⟨u5, rfl, hu5⟩, he5⟩
  have HU5 := Lib.hid hu5
  obtain ⟨A5, k5, c5, rfl⟩ := hu5.form
  have HR5 := Lib.hid (HR9.out.ext he5); have HX5 := Lib.hid (HX9.out.trans he5)
  obtain ⟨s9, hs⟩ : ∃ s9, s9 = negI (sgI s ((r.num.natAbs + r.num.natAbs + r.den) / (r.den + r.den))) := ⟨_, rfl⟩
  rw [← hs]
  have HS9 := Lib.hid hs
  clear hs hu5 he5 b0
  have d0 := HR5.out.cell 0; have d1 := HR5.out.cell 1
  have f0 := HR5.out.frozen 0; have f1 := HR5.out.frozen 1
  simp only [List.getElem?_cons_succ, List.getElem?_cons_zero] at d0 d1
  go_wp2_with fail
  refine bodyPost_ret (v := .agg #[.bool s9, .slice A5 k5 c5]) (by simp [results, Tryz.results136, go_sem, d0, d1]) rfl ?_
  exact ⟨_, rfl, ⟨_, by rw [HS9.out], HU5.out.other HR5.out rfl (ks2 _ _ _ _)⟩, kext HX5.out (Nat.le_succ _) (ks2 _ _ _ _)⟩
def IsP (x y : Rat) : Value → World → Prop := fun v w => ∃ u d u' d', v = .agg #[.bool (negI x.num), u, d, .bool (negI y.num), u', d'] ∧ NatAt w u x.num.natAbs ∧ NatAt w d x.den ∧ NatAt w u' y.num.natAbs ∧ NatAt w d' y.den
theorem IsP.ext {x y : Rat} {v : Value} {w w2 : World} (h : IsP x y v w) (he : Ext w w2) : IsP x y v w2 := by
 obtain ⟨u, d, u', d', h1, h2, h3, h4, h5⟩ := h; exact ⟨u, d, u', d', h1, h2.ext he, h3.ext he, h4.ext he, h5.ext he⟩
theorem IsP.kp (x y : Rat) : Kp (IsP x y) := fun _ _ _ he h => h.ext he
theorem ks6 (w : World) (G : Nat) (u0 u1 u2 u3 u4 u5 : Value) : Kept (fun b => b = G) w ((((((w.setCell ⟨G, 0, none⟩ u0).setCell ⟨G, 1, none⟩ u1).setCell ⟨G, 2, none⟩ u2).setCell ⟨G, 3, none⟩ u3).setCell ⟨G, 4, none⟩ u4).setCell ⟨G, 5, none⟩ u5) := kset (kset (kset (kset (kset (kset (Kept.refl _ _) _ _) _ _) _ _) _ _) _ _) _ _
theorem blk6c {t : TypeId} {w : World} {g : Nat} {a b c d e f : Value} (h : Blk t w g [a, b, c, d, e, f]) : w.cell? ⟨g, 0, none⟩ = some a ∧ w.cell? ⟨g, 1, none⟩ = some b ∧ w.cell? ⟨g, 2, none⟩ = some c ∧ w.cell? ⟨g, 3, none⟩ = some d ∧ w.cell? ⟨g, 4, none⟩ = some e ∧ w.cell? ⟨g, 5, none⟩ = some f := ⟨h.cell 0, h.cell 1, h.cell 2, h.cell 3, h.cell 4, h.cell 5⟩
theorem blk6f {t : TypeId} {w : World} {g : Nat} {cs : List Value} (h : Blk t w g cs) : w.frozen? ⟨g, 0, none⟩ = false ∧ w.frozen? ⟨g, 1, none⟩ = false ∧ w.frozen? ⟨g, 2, none⟩ = false ∧ w.frozen? ⟨g, 3, none⟩ = false ∧ w.frozen? ⟨g, 4, none⟩ = false ∧ w.frozen? ⟨g, 5, none⟩ = false := ⟨h.frozen 0, h.frozen 1, h.frozen 2, h.frozen 3, h.frozen 4, h.frozen 5⟩
set_option maxRecDepth 100000 in
set_option maxHeartbeats 3200000 in
theorem pof_any (x y : Int) (w : World) (hx : -9223372036854775808 ≤ x ∧ x ≤ 9223372036854775807) (hy : -9223372036854775808 ≤ y ∧ y ≤ 9223372036854775807) : Calls Tryz.prog 109 #[.int .i64 x, .int .i64 y] w (Ret (IsP (x : Rat) (y : Rat)) w) := by
 have H1 := Lib.hid (fun W => rof_any x W hx.1 hx.2)
 have H2 := Lib.hid (fun W => rof_any y W hy.1 hy.2)
 clear hx hy
 generalize (x : Rat) = X at *
 generalize (y : Rat) = Y at *
 go_enter Tryz.func109, Tryz.ntmps109
 go_wp2_with fail
 refine (H1.out _).mono ?_
 rintro e w1 ⟨v1, rfl, ⟨r1, rfl, ⟨u1, d1, rfl, hu1, hd1⟩⟩, he1⟩
 have HX1 : Hid (Ext w w1) := ((Ext.refl _).alloc _).trans he1
 have HR1 : Hid (Blk 155 w1 w.heap.size [.bool false, .slice none 0 0, .slice none 0 0, .bool false, .slice none 0 0, .slice none 0 0]) := (Blk.new' rfl).ext he1
 have HU1 := Lib.hid hu1; have HD1 := Lib.hid hd1
 obtain ⟨A, k, c, rfl⟩ := hu1.form
 obtain ⟨A2, k2, c2, rfl⟩ := hd1.form
 obtain ⟨s, hs⟩ : ∃ s, s = negI X.num := ⟨_, rfl⟩
 rw [← hs]
 have HS := Lib.hid hs
 clear hu1 hd1 he1 H1 hs
 go_wp2_with fail
 refine (H2.out _).mono ?_
 rintro e w2 ⟨v2, rfl, ⟨r2, rfl, ⟨u2, d2, rfl, hu2, hd2⟩⟩, he2⟩
 have hex : Ext w1 w2 := ((Ext.refl _).alloc _).trans he2
 have HN : Hid (Blk 145 w2 w1.heap.size [.bool s, .slice A k c, .slice A2 k2 c2]) := (Blk.new' rfl).ext he2
 have HX2 := Lib.hid (HX1.out.trans hex)
 have HR2 := Lib.hid (HR1.out.ext hex)
 have HU1' := Lib.hid (HU1.out.ext hex); have HD1' := Lib.hid (HD1.out.ext hex)
 have HU2 := Lib.hid hu2; have HD2 := Lib.hid hd2
 obtain ⟨A3, k3, c3, rfl⟩ := hu2.form
 obtain ⟨A4, k4, c4, rfl⟩ := hd2.form
 obtain ⟨s', hs⟩ : ∃ s, s = negI Y.num := ⟨_, rfl⟩
 rw [← hs]
 have HS' := Lib.hid hs
 have HL : Hid (w.heap.size < w1.heap.size ∧ w1.heap.size < w2.heap.size) := ⟨HR1.out.lt, HN.out.lt⟩
 clear hu2 hd2 he2 hex H2 hs HX1 HR1 HU1 HD1
 obtain ⟨n0, n1, n2⟩ := blk3c HN.out
 obtain ⟨b0, b1, b2, b3, b4, b5⟩ := blk6c HR2.out
 obtain ⟨f0, f1, f2, f3, f4, f5⟩ := blk6f HR2.out
 have hl1 := HL.out.1
 have hl2 := HL.out.2
 have hl3 : w1.heap.size ≠ w2.heap.size := by omega
 have hl4 : w.heap.size ≠ w2.heap.size := by omega
 have hl5 : w.heap.size < w2.heap.size := by omega
 go_wp2_with fail
 refine bodyPost_ret (v := .agg #[.bool s, .slice A k c, .slice A2 k2 c2, .bool s', .slice A3 k3 c3, .slice A4 k4 c4]) (by simp [results, Tryz.results109, go_sem, b0, b1, b2, b3, b4, b5, hl5]) rfl ?_
 have key : ∀ {u : Value} {n : Nat}, NatAt w2 u n → NatAt (((((((w2.setCell ⟨w.heap.size, 0, none⟩ (.bool s)).setCell ⟨w.heap.size, 1, none⟩ (.slice A k c)).setCell ⟨w.heap.size, 2, none⟩ (.slice A2 k2 c2)).setCell ⟨w.heap.size, 3, none⟩ (.bool s')).setCell ⟨w.heap.size, 4, none⟩ (.slice A3 k3 c3)).setCell ⟨w.heap.size, 5, none⟩ (.slice A4 k4 c4)).alloc (.cells #[.bool s', .slice A3 k3 c3, .slice A4 k4 c4] 145)) u n := fun h => (h.other HR2.out rfl (ks6 _ _ _ _ _ _ _ _)).ext ((Ext.refl _).alloc _)
 exact ⟨_, rfl, ⟨_, _, _, _, by rw [HS.out, HS'.out], key HU1'.out, key HD1'.out, key HU2.out, key HD2.out⟩, (kext HX2.out (Nat.le_refl _) (ks6 _ _ _ _ _ _ _ _)).alloc _⟩
set_option maxRecDepth 100000 in
set_option maxHeartbeats 3200000 in
theorem psub_any (x y x' y' : Rat) (v v' : Value) (w : World) (h : IsP x y v w) (h' : IsP x' y' v' w) (hx1 : RB x) (hx2 : RB x') (hy1 : RB y) (hy2 : RB y') (hd1 : x.den * x'.den < DB) (hd2 : y.den * y'.den < DB) (hq1 : x'.den < DB) (hq2 : y'.den < DB) : Calls Tryz.prog 87 #[v, v'] w (Ret (IsP (x - x') (y - y')) w) := by
 have HX1 := Lib.hid hx1; have HX2 := Lib.hid hx2; have HY1 := Lib.hid hy1; have HY2 := Lib.hid hy2; have HD1 := Lib.hid hd1; have HD2 := Lib.hid hd2; have HQ1 := Lib.hid hq1; have HQ2 := Lib.hid hq2
 clear hx1 hx2 hy1 hy2 hd1 hd2 hq1 hq2
 obtain ⟨u1, u2, u3, u4, rfl, h1, h2, h3, h4⟩ := h
 have HA1 := Lib.hid h1; have HA2 := Lib.hid h2; have HA3 := Lib.hid h3; have HA4 := Lib.hid h4
 obtain ⟨A1, k1, c1, rfl⟩ := h1.form
 obtain ⟨A2, k2, c2, rfl⟩ := h2.form
 obtain ⟨A3, k3, c3, rfl⟩ := h3.form
 obtain ⟨A4, k4, c4, rfl⟩ := h4.form
 clear h1 h2 h3 h4
 obtain ⟨s1, hs⟩ : ∃ b_, b_ = negI x.num := ⟨_, rfl⟩
 rw [← hs]
 have HE1 := Lib.hid hs
 clear hs
 obtain ⟨s2, hs⟩ : ∃ b_, b_ = negI y.num := ⟨_, rfl⟩
 rw [← hs]
 have HE2 := Lib.hid hs
 clear hs
 obtain ⟨u5, u6, u7, u8, rfl, h5, h6, h7, h8⟩ := h'
 have HA5 := Lib.hid h5; have HA6 := Lib.hid h6; have HA7 := Lib.hid h7; have HA8 := Lib.hid h8
 obtain ⟨A5, k5, c5, rfl⟩ := h5.form
 obtain ⟨A6, k6, c6, rfl⟩ := h6.form
 obtain ⟨A7, k7, c7, rfl⟩ := h7.form
 obtain ⟨A8, k8, c8, rfl⟩ := h8.form
 clear h5 h6 h7 h8
 obtain ⟨s3, hs⟩ : ∃ b_, b_ = negI x'.num := ⟨_, rfl⟩
 rw [← hs]
 have HE5 := Lib.hid hs
 clear hs
 obtain ⟨s4, hs⟩ : ∃ b_, b_ = negI y'.num := ⟨_, rfl⟩
 rw [← hs]
 have HE6 := Lib.hid hs
 clear hs
 go_enter Tryz.func87, Tryz.ntmps87
 go_upto_region 1 with fail
 refine wp_at fun W0 hW0 => ?_
 have HX0 : Hid (Ext w W0) := by show Ext _ _; rw [hW0]; exact ((((Ext.refl _).alloc _).alloc _).alloc _)
 have HB1 : Hid (Blk 155 W0 (w.heap.size) [.bool s1, .slice A1 k1 c1, .slice A2 k2 c2, .bool s2, .slice A3 k3 c3, .slice A4 k4 c4]) := by show Blk _ _ _ _; rw [hW0]; exact ((Blk.new' rfl).ext ((Ext.refl _).alloc _)).ext ((Ext.refl _).alloc _)
 have HB2 : Hid (Blk 155 W0 (w.heap.size + 1) [.bool s3, .slice A5 k5 c5, .slice A6 k6 c6, .bool s4, .slice A7 k7 c7, .slice A8 k8 c8]) := by show Blk _ _ _ _; rw [hW0]; exact (Blk.new' (by simp)).ext ((Ext.refl _).alloc _)
 have HR0 : Hid (Blk 155 W0 (w.heap.size + 1 + 1) [.bool false, .slice none 0 0, .slice none 0 0, .bool false, .slice none 0 0, .slice none 0 0]) := by show Blk _ _ _ _; rw [hW0]; exact Blk.new' (by simp)
 clear hW0
 refine region_slotsL (l := 11) (N := 16) (W0 := W0) [5, 6, 7, 8, 9, 10, 11, 12, 13, 14, 15] [Fx (.pointer (some ⟨w.heap.size, 0, none⟩)), IsR x, Fx (.pointer (some ⟨w.heap.size + 1, 0, none⟩)), IsR x', IsR (x - x'), Fx (.pointer (some ⟨w.heap.size, 3, none⟩)), IsR y, Fx (.pointer (some ⟨w.heap.size + 1, 3, none⟩)), IsR y', IsR (y - y'), IsP (x - x') (y - y')] (by kernel_rfl) (by kernel_rfl) (by kernel_rfl) (by kernel_rfl) (Ext.refl _) ?kp (fun i hi => ?_) (fun xs w1 hx hT => ?_)
 case kp => exact ⟨Fx.kp _, IsR.kp _, Fx.kp _, IsR.kp _, IsR.kp _, Fx.kp _, IsR.kp _, Fx.kp _, IsR.kp _, IsR.kp _, IsP.kp _ _, trivial⟩
 ·match i, hi with
  |0, _ =>
   refine so rfl ?_
   intro fb wi hx hb hd K hK
   have x2 : fb.eval (.tmp 2) = .pointer (some ⟨w.heap.size, 0, none⟩) := hb 2 rfl
   refine sv rfl (v := .pointer (some ⟨w.heap.size, 0, none⟩)) (w' := wi) (fun ρ hρ hc => ?_) (hK _ _ (Ext.refl _) (rfl))
   have r2 := (hρ (.tmp 2)).trans x2
   simp [execOp, go_sem, r2]
  |1, _ =>
   refine so rfl ?_
   intro fb wi hx hb hd K hK
   have x5 : fb.eval (.tmp 5) = .pointer (some ⟨w.heap.size, 0, none⟩) := hd 0 5 rfl (by kernel_rfl)
   have cf0 := (HB1.out.ext hx).cell 0
   have cf1 := (HB1.out.ext hx).cell 1
   have cf2 := (HB1.out.ext hx).cell 2
   simp only [List.getElem?_cons_zero, List.getElem?_cons_succ] at cf0 cf1 cf2
   refine sv rfl (v := .agg #[.bool s1, .slice A1 k1 c1, .slice A2 k2 c2]) (w' := wi) (fun ρ hρ hc => ?_) (hK _ _ (Ext.refl _) (⟨_, _, by rw [HE1.out], HA1.out.ext (HX0.out.trans hx), HA2.out.ext (HX0.out.trans hx)⟩))
   have r5 := (hρ (.tmp 5)).trans x5
   simp [execOp, go_sem, r5, cf0, cf1, cf2]
  |2, _ =>
   refine so rfl ?_
   intro fb wi hx hb hd K hK
   have x3 : fb.eval (.tmp 3) = .pointer (some ⟨w.heap.size + 1, 0, none⟩) := hb 3 rfl
   refine sv rfl (v := .pointer (some ⟨w.heap.size + 1, 0, none⟩)) (w' := wi) (fun ρ hρ hc => ?_) (hK _ _ (Ext.refl _) (rfl))
   have r3 := (hρ (.tmp 3)).trans x3
   simp [execOp, go_sem, r3]
  |3, _ =>
   refine so rfl ?_
   intro fb wi hx hb hd K hK
   have x7 : fb.eval (.tmp 7) = .pointer (some ⟨w.heap.size + 1, 0, none⟩) := hd 2 7 rfl (by kernel_rfl)
   have cf0 := (HB2.out.ext hx).cell 0
   have cf1 := (HB2.out.ext hx).cell 1
   have cf2 := (HB2.out.ext hx).cell 2
   simp only [List.getElem?_cons_zero, List.getElem?_cons_succ] at cf0 cf1 cf2
   refine sv rfl (v := .agg #[.bool s3, .slice A5 k5 c5, .slice A6 k6 c6]) (w' := wi) (fun ρ hρ hc => ?_) (hK _ _ (Ext.refl _) (⟨_, _, by rw [HE5.out], HA5.out.ext (HX0.out.trans hx), HA6.out.ext (HX0.out.trans hx)⟩))
   have r7 := (hρ (.tmp 7)).trans x7
   simp [execOp, go_sem, r7, cf0, cf1, cf2]
  |4, _ =>
   refine so rfl ?_
   intro fb wi hx hb hd K hK
   have y6 : IsR x (fb.eval (.tmp 6)) wi := hd 1 6 rfl (by kernel_rfl)
   have y8 : IsR x' (fb.eval (.tmp 8)) wi := hd 3 8 rfl (by kernel_rfl)
   refine sc rfl 111 [.tmp 6, .tmp 8] #[145, 145] rfl _ Tryz.func111 rfl (by decide +kernel) [fb.eval (.tmp 6), fb.eval (.tmp 8)] rfl (rsub_any _ _ _ _ wi y6 y8 HX1.out HX2.out HD1.out HQ1.out) (fun e w' h => rk hK h)
  |5, _ =>
   refine so rfl ?_
   intro fb wi hx hb hd K hK
   have x2 : fb.eval (.tmp 2) = .pointer (some ⟨w.heap.size, 0, none⟩) := hb 2 rfl
   refine sv rfl (v := .pointer (some ⟨w.heap.size, 3, none⟩)) (w' := wi) (fun ρ hρ hc => ?_) (hK _ _ (Ext.refl _) (rfl))
   have r2 := (hρ (.tmp 2)).trans x2
   simp [execOp, go_sem, r2]
  |6, _ =>
   refine so rfl ?_
   intro fb wi hx hb hd K hK
   have x10 : fb.eval (.tmp 10) = .pointer (some ⟨w.heap.size, 3, none⟩) := hd 5 10 rfl (by kernel_rfl)
   have cf0 := (HB1.out.ext hx).cell 3
   have cf1 := (HB1.out.ext hx).cell 4
   have cf2 := (HB1.out.ext hx).cell 5
   simp only [List.getElem?_cons_zero, List.getElem?_cons_succ] at cf0 cf1 cf2
   refine sv rfl (v := .agg #[.bool s2, .slice A3 k3 c3, .slice A4 k4 c4]) (w' := wi) (fun ρ hρ hc => ?_) (hK _ _ (Ext.refl _) (⟨_, _, by rw [HE2.out], HA3.out.ext (HX0.out.trans hx), HA4.out.ext (HX0.out.trans hx)⟩))
   have r10 := (hρ (.tmp 10)).trans x10
   simp [execOp, go_sem, r10, cf0, cf1, cf2]
  |7, _ =>
   refine so rfl ?_
   intro fb wi hx hb hd K hK
   have x3 : fb.eval (.tmp 3) = .pointer (some ⟨w.heap.size + 1, 0, none⟩) := hb 3 rfl
   refine sv rfl (v := .pointer (some ⟨w.heap.size + 1, 3, none⟩)) (w' := wi) (fun ρ hρ hc => ?_) (hK _ _ (Ext.refl _) (rfl))
   have r3 := (hρ (.tmp 3)).trans x3
   simp [execOp, go_sem, r3]
  |8, _ =>
   refine so rfl ?_
   intro fb wi hx hb hd K hK
   have x12 : fb.eval (.tmp 12) = .pointer (some ⟨w.heap.size + 1, 3, none⟩) := hd 7 12 rfl (by kernel_rfl)
   have cf0 := (HB2.out.ext hx).cell 3
   have cf1 := (HB2.out.ext hx).cell 4
   have cf2 := (HB2.out.ext hx).cell 5
   simp only [List.getElem?_cons_zero, List.getElem?_cons_succ] at cf0 cf1 cf2
   refine sv rfl (v := .agg #[.bool s4, .slice A7 k7 c7, .slice A8 k8 c8]) (w' := wi) (fun ρ hρ hc => ?_) (hK _ _ (Ext.refl _) (⟨_, _, by rw [HE6.out], HA7.out.ext (HX0.out.trans hx), HA8.out.ext (HX0.out.trans hx)⟩))
   have r12 := (hρ (.tmp 12)).trans x12
   simp [execOp, go_sem, r12, cf0, cf1, cf2]
  |9, _ =>
   refine so rfl ?_
   intro fb wi hx hb hd K hK
   have y11 : IsR y (fb.eval (.tmp 11)) wi := hd 6 11 rfl (by kernel_rfl)
   have y13 : IsR y' (fb.eval (.tmp 13)) wi := hd 8 13 rfl (by kernel_rfl)
   refine sc rfl 111 [.tmp 11, .tmp 13] #[145, 145] rfl _ Tryz.func111 rfl (by decide +kernel) [fb.eval (.tmp 11), fb.eval (.tmp 13)] rfl (rsub_any _ _ _ _ wi y11 y13 HY1.out HY2.out HD2.out HQ2.out) (fun e w' h => rk hK h)
  |10, _ =>
   refine so rfl ?_
   intro fb wi hx hb hd K hK
   have y9 : IsR (x - x') (fb.eval (.tmp 9)) wi := hd 4 9 rfl (by kernel_rfl)
   have y14 : IsR (y - y') (fb.eval (.tmp 14)) wi := hd 9 14 rfl (by kernel_rfl)
   obtain ⟨p1, p2, z1, g1, g2⟩ := y9
   obtain ⟨p3, p4, z2, g3, g4⟩ := y14
   have x9 := z1
   have x14 := z2
   refine sv rfl (v := .agg #[.bool (negI (x - x').num), p1, p2, .bool (negI (y - y').num), p3, p4]) (w' := wi) (fun ρ hρ hc => ?_) (hK _ _ (Ext.refl _) (⟨_, _, _, _, rfl, g1, g2, g3, g4⟩))
   have r9 := (hρ (.tmp 9)).trans x9
   have r14 := (hρ (.tmp 14)).trans x14
   simp [execOp, go_sem, r9, r14]
  |n + 11, hn => exact absurd hn (by omega)
 ·skip
  have t15 : IsP (x - x') (y - y') (xs 10) w1 := hT 10 (by decide)
  simp only [frOf, putAll, List.drop_succ_cons, List.drop_zero, List.setIfInBounds_toArray, List.set_cons_succ, List.set_cons_zero, Nat.zero_add, Nat.reduceAdd]
  obtain ⟨u9, u10, u11, u12, q15, h9, h10, h11, h12⟩ := t15
  have HU := Lib.hid h9; have HD := Lib.hid h10; have HU' := Lib.hid h11; have HD' := Lib.hid h12
  obtain ⟨A9, k9, c9, rfl⟩ := h9.form
  obtain ⟨A10, k10, c10, rfl⟩ := h10.form
  obtain ⟨A11, k11, c11, rfl⟩ := h11.form
  obtain ⟨A12, k12, c12, rfl⟩ := h12.form
  have HB9 := Lib.hid (HR0.out.ext hx)
  have HX9 := Lib.hid (HX0.out.trans hx)
  rw [q15]
  clear q15 h9 h10 h11 h12 hT
  obtain ⟨b0, b1, b2, b3, b4, b5⟩ := blk6c HB9.out
  obtain ⟨f0, f1, f2, f3, f4, f5⟩ := blk6f HB9.out
  obtain ⟨s9, hs⟩ : ∃ b_, b_ = negI (x - x').num := ⟨_, rfl⟩
  rw [← hs]
  have HS := Lib.hid hs
  clear hs
  obtain ⟨s10, hs⟩ : ∃ b_, b_ = negI (y - y').num := ⟨_, rfl⟩
  rw [← hs]
  have HS' := Lib.hid hs
  clear hs
  go_wp2_with fail
  refine bodyPost_ret (v := .agg #[.bool s9, .slice A9 k9 c9, .slice A10 k10 c10, .bool s10, .slice A11 k11 c11, .slice A12 k12 c12]) (by simp [results, Tryz.results87, go_sem, b0, b1, b2, b3, b4, b5]) rfl ?_
  exact ⟨_, rfl, ⟨_, _, _, _, by rw [HS.out, HS'.out], HU.out.other HB9.out rfl (ks6 _ _ _ _ _ _ _ _), HD.out.other HB9.out rfl (ks6 _ _ _ _ _ _ _ _), HU'.out.other HB9.out rfl (ks6 _ _ _ _ _ _ _ _), HD'.out.other HB9.out rfl (ks6 _ _ _ _ _ _ _ _)⟩, kext HX9.out (by omega) (ks6 _ _ _ _ _ _ _ _)⟩
set_option maxRecDepth 100000 in
set_option maxHeartbeats 3200000 in
theorem padd_any (x y x' y' : Rat) (v v' : Value) (w : World) (h : IsP x y v w) (h' : IsP x' y' v' w) (hx1 : RB x) (hx2 : RB x') (hy1 : RB y) (hy2 : RB y') (hd1 : x.den * x'.den < DB) (hd2 : y.den * y'.den < DB) : Calls Tryz.prog 132 #[v, v'] w (Ret (IsP (x + x') (y + y')) w) := by
 have HX1 := Lib.hid hx1; have HX2 := Lib.hid hx2; have HY1 := Lib.hid hy1; have HY2 := Lib.hid hy2; have HD1 := Lib.hid hd1; have HD2 := Lib.hid hd2
 clear hx1 hx2 hy1 hy2 hd1 hd2
 obtain ⟨u1, u2, u3, u4, rfl, h1, h2, h3, h4⟩ := h
 have HA1 := Lib.hid h1; have HA2 := Lib.hid h2; have HA3 := Lib.hid h3; have HA4 := Lib.hid h4
 obtain ⟨A1, k1, c1, rfl⟩ := h1.form
 obtain ⟨A2, k2, c2, rfl⟩ := h2.form
 obtain ⟨A3, k3, c3, rfl⟩ := h3.form
 obtain ⟨A4, k4, c4, rfl⟩ := h4.form
 clear h1 h2 h3 h4
 obtain ⟨s1, hs⟩ : ∃ b_, b_ = negI x.num := ⟨_, rfl⟩
 rw [← hs]
 have HE1 := Lib.hid hs
 clear hs
 obtain ⟨s2, hs⟩ : ∃ b_, b_ = negI y.num := ⟨_, rfl⟩
 rw [← hs]
 have HE2 := Lib.hid hs
 clear hs
 obtain ⟨u5, u6, u7, u8, rfl, h5, h6, h7, h8⟩ := h'
 have HA5 := Lib.hid h5; have HA6 := Lib.hid h6; have HA7 := Lib.hid h7; have HA8 := Lib.hid h8
 obtain ⟨A5, k5, c5, rfl⟩ := h5.form
 obtain ⟨A6, k6, c6, rfl⟩ := h6.form
 obtain ⟨A7, k7, c7, rfl⟩ := h7.form
 obtain ⟨A8, k8, c8, rfl⟩ := h8.form
 clear h5 h6 h7 h8
 obtain ⟨s3, hs⟩ : ∃ b_, b_ = negI x'.num := ⟨_, rfl⟩
 rw [← hs]
 have HE5 := Lib.hid hs
 clear hs
 obtain ⟨s4, hs⟩ : ∃ b_, b_ = negI y'.num := ⟨_, rfl⟩
 rw [← hs]
 have HE6 := Lib.hid hs
 clear hs
 go_enter Tryz.func132, Tryz.ntmps132
 go_upto_region 1 with fail
 refine wp_at fun W0 hW0 => ?_
 have HX0 : Hid (Ext w W0) := by show Ext _ _; rw [hW0]; exact ((((Ext.refl _).alloc _).alloc _).alloc _)
 have HB1 : Hid (Blk 155 W0 (w.heap.size) [.bool s1, .slice A1 k1 c1, .slice A2 k2 c2, .bool s2, .slice A3 k3 c3, .slice A4 k4 c4]) := by show Blk _ _ _ _; rw [hW0]; exact ((Blk.new' rfl).ext ((Ext.refl _).alloc _)).ext ((Ext.refl _).alloc _)
 have HB2 : Hid (Blk 155 W0 (w.heap.size + 1) [.bool s3, .slice A5 k5 c5, .slice A6 k6 c6, .bool s4, .slice A7 k7 c7, .slice A8 k8 c8]) := by show Blk _ _ _ _; rw [hW0]; exact (Blk.new' (by simp)).ext ((Ext.refl _).alloc _)
 have HR0 : Hid (Blk 155 W0 (w.heap.size + 1 + 1) [.bool false, .slice none 0 0, .slice none 0 0, .bool false, .slice none 0 0, .slice none 0 0]) := by show Blk _ _ _ _; rw [hW0]; exact Blk.new' (by simp)
 clear hW0
 refine region_slotsL (l := 11) (N := 16) (W0 := W0) [5, 6, 7, 8, 9, 10, 11, 12, 13, 14, 15] [Fx (.pointer (some ⟨w.heap.size, 0, none⟩)), IsR x, Fx (.pointer (some ⟨w.heap.size + 1, 0, none⟩)), IsR x', IsR (x + x'), Fx (.pointer (some ⟨w.heap.size, 3, none⟩)), IsR y, Fx (.pointer (some ⟨w.heap.size + 1, 3, none⟩)), IsR y', IsR (y + y'), IsP (x + x') (y + y')] (by kernel_rfl) (by kernel_rfl) (by kernel_rfl) (by kernel_rfl) (Ext.refl _) ?kp (fun i hi => ?_) (fun xs w1 hx hT => ?_)
 case kp => exact ⟨Fx.kp _, IsR.kp _, Fx.kp _, IsR.kp _, IsR.kp _, Fx.kp _, IsR.kp _, Fx.kp _, IsR.kp _, IsR.kp _, IsP.kp _ _, trivial⟩
 ·match i, hi with
  |0, _ =>
   refine so rfl ?_
   intro fb wi hx hb hd K hK
   have x2 : fb.eval (.tmp 2) = .pointer (some ⟨w.heap.size, 0, none⟩) := hb 2 rfl
   refine sv rfl (v := .pointer (some ⟨w.heap.size, 0, none⟩)) (w' := wi) (fun ρ hρ hc => ?_) (hK _ _ (Ext.refl _) (rfl))
   have r2 := (hρ (.tmp 2)).trans x2
   simp [execOp, go_sem, r2]
  |1, _ =>
   refine so rfl ?_
   intro fb wi hx hb hd K hK
   have x5 : fb.eval (.tmp 5) = .pointer (some ⟨w.heap.size, 0, none⟩) := hd 0 5 rfl (by kernel_rfl)
   have cf0 := (HB1.out.ext hx).cell 0
   have cf1 := (HB1.out.ext hx).cell 1
   have cf2 := (HB1.out.ext hx).cell 2
   simp only [List.getElem?_cons_zero, List.getElem?_cons_succ] at cf0 cf1 cf2
   refine sv rfl (v := .agg #[.bool s1, .slice A1 k1 c1, .slice A2 k2 c2]) (w' := wi) (fun ρ hρ hc => ?_) (hK _ _ (Ext.refl _) (⟨_, _, by rw [HE1.out], HA1.out.ext (HX0.out.trans hx), HA2.out.ext (HX0.out.trans hx)⟩))
   have r5 := (hρ (.tmp 5)).trans x5
   simp [execOp, go_sem, r5, cf0, cf1, cf2]
  |2, _ =>
   refine so rfl ?_
   intro fb wi hx hb hd K hK
   have x3 : fb.eval (.tmp 3) = .pointer (some ⟨w.heap.size + 1, 0, none⟩) := hb 3 rfl
   refine sv rfl (v := .pointer (some ⟨w.heap.size + 1, 0, none⟩)) (w' := wi) (fun ρ hρ hc => ?_) (hK _ _ (Ext.refl _) (rfl))
   have r3 := (hρ (.tmp 3)).trans x3
   simp [execOp, go_sem, r3]
  |3, _ =>
   refine so rfl ?_
   intro fb wi hx hb hd K hK
   have x7 : fb.eval (.tmp 7) = .pointer (some ⟨w.heap.size + 1, 0, none⟩) := hd 2 7 rfl (by kernel_rfl)
   have cf0 := (HB2.out.ext hx).cell 0
   have cf1 := (HB2.out.ext hx).cell 1
   have cf2 := (HB2.out.ext hx).cell 2
   simp only [List.getElem?_cons_zero, List.getElem?_cons_succ] at cf0 cf1 cf2
   refine sv rfl (v := .agg #[.bool s3, .slice A5 k5 c5, .slice A6 k6 c6]) (w' := wi) (fun ρ hρ hc => ?_) (hK _ _ (Ext.refl _) (⟨_, _, by rw [HE5.out], HA5.out.ext (HX0.out.trans hx), HA6.out.ext (HX0.out.trans hx)⟩))
   have r7 := (hρ (.tmp 7)).trans x7
   simp [execOp, go_sem, r7, cf0, cf1, cf2]
  |4, _ =>
   refine so rfl ?_
   intro fb wi hx hb hd K hK
   have y6 : IsR x (fb.eval (.tmp 6)) wi := hd 1 6 rfl (by kernel_rfl)
   have y8 : IsR x' (fb.eval (.tmp 8)) wi := hd 3 8 rfl (by kernel_rfl)
   refine sc rfl 137 [.tmp 6, .tmp 8] #[145, 145] rfl _ Tryz.func137 rfl (by decide +kernel) [fb.eval (.tmp 6), fb.eval (.tmp 8)] rfl (radd_any _ _ _ _ wi y6 y8 HX1.out HX2.out HD1.out) (fun e w' h => rk hK h)
  |5, _ =>
   refine so rfl ?_
   intro fb wi hx hb hd K hK
   have x2 : fb.eval (.tmp 2) = .pointer (some ⟨w.heap.size, 0, none⟩) := hb 2 rfl
   refine sv rfl (v := .pointer (some ⟨w.heap.size, 3, none⟩)) (w' := wi) (fun ρ hρ hc => ?_) (hK _ _ (Ext.refl _) (rfl))
   have r2 := (hρ (.tmp 2)).trans x2
   simp [execOp, go_sem, r2]
  |6, _ =>
   refine so rfl ?_
   intro fb wi hx hb hd K hK
   have x10 : fb.eval (.tmp 10) = .pointer (some ⟨w.heap.size, 3, none⟩) := hd 5 10 rfl (by kernel_rfl)
   have cf0 := (HB1.out.ext hx).cell 3
   have cf1 := (HB1.out.ext hx).cell 4
   have cf2 := (HB1.out.ext hx).cell 5
   simp only [List.getElem?_cons_zero, List.getElem?_cons_succ] at cf0 cf1 cf2
   refine sv rfl (v := .agg #[.bool s2, .slice A3 k3 c3, .slice A4 k4 c4]) (w' := wi) (fun ρ hρ hc => ?_) (hK _ _ (Ext.refl _) (⟨_, _, by rw [HE2.out], HA3.out.ext (HX0.out.trans hx), HA4.out.ext (HX0.out.trans hx)⟩))
   have r10 := (hρ (.tmp 10)).trans x10
   simp [execOp, go_sem, r10, cf0, cf1, cf2]
  |7, _ =>
   refine so rfl ?_
   intro fb wi hx hb hd K hK
   have x3 : fb.eval (.tmp 3) = .pointer (some ⟨w.heap.size + 1, 0, none⟩) := hb 3 rfl
   refine sv rfl (v := .pointer (some ⟨w.heap.size + 1, 3, none⟩)) (w' := wi) (fun ρ hρ hc => ?_) (hK _ _ (Ext.refl _) (rfl))
   have r3 := (hρ (.tmp 3)).trans x3
   simp [execOp, go_sem, r3]
  |8, _ =>
   refine so rfl ?_
   intro fb wi hx hb hd K hK
   have x12 : fb.eval (.tmp 12) = .pointer (some ⟨w.heap.size + 1, 3, none⟩) := hd 7 12 rfl (by kernel_rfl)
   have cf0 := (HB2.out.ext hx).cell 3
   have cf1 := (HB2.out.ext hx).cell 4
   have cf2 := (HB2.out.ext hx).cell 5
   simp only [List.getElem?_cons_zero, List.getElem?_cons_succ] at cf0 cf1 cf2
   refine sv rfl (v := .agg #[.bool s4, .slice A7 k7 c7, .slice A8 k8 c8]) (w' := wi) (fun ρ hρ hc => ?_) (hK _ _ (Ext.refl _) (⟨_, _, by rw [HE6.out], HA7.out.ext (HX0.out.trans hx), HA8.out.ext (HX0.out.trans hx)⟩))
   have r12 := (hρ (.tmp 12)).trans x12
   simp [execOp, go_sem, r12, cf0, cf1, cf2]
  |9, _ =>
   refine so rfl ?_
   intro fb wi hx hb hd K hK
   have y11 : IsR y (fb.eval (.tmp 11)) wi := hd 6 11 rfl (by kernel_rfl)
   have y13 : IsR y' (fb.eval (.tmp 13)) wi := hd 8 13 rfl (by kernel_rfl)
   refine sc rfl 137 [.tmp 11, .tmp 13] #[145, 145] rfl _ Tryz.func137 rfl (by decide +kernel) [fb.eval (.tmp 11), fb.eval (.tmp 13)] rfl (radd_any _ _ _ _ wi y11 y13 HY1.out HY2.out HD2.out) (fun e w' h => rk hK h)
  |10, _ =>
   refine so rfl ?_
   intro fb wi hx hb hd K hK
   have y9 : IsR (x + x') (fb.eval (.tmp 9)) wi := hd 4 9 rfl (by kernel_rfl)
   have y14 : IsR (y + y') (fb.eval (.tmp 14)) wi := hd 9 14 rfl (by kernel_rfl)
   obtain ⟨p1, p2, z1, g1, g2⟩ := y9
   obtain ⟨p3, p4, z2, g3, g4⟩ := y14
   have x9 := z1
   have x14 := z2
   refine sv rfl (v := .agg #[.bool (negI (x + x').num), p1, p2, .bool (negI (y + y').num), p3, p4]) (w' := wi) (fun ρ hρ hc => ?_) (hK _ _ (Ext.refl _) (⟨_, _, _, _, rfl, g1, g2, g3, g4⟩))
   have r9 := (hρ (.tmp 9)).trans x9
   have r14 := (hρ (.tmp 14)).trans x14
   simp [execOp, go_sem, r9, r14]
  |n + 11, hn => exact absurd hn (by omega)
 ·skip
  have t15 : IsP (x + x') (y + y') (xs 10) w1 := hT 10 (by decide)
  simp only [frOf, putAll, List.drop_succ_cons, List.drop_zero, List.setIfInBounds_toArray, List.set_cons_succ, List.set_cons_zero, Nat.zero_add, Nat.reduceAdd]
  obtain ⟨u9, u10, u11, u12, q15, h9, h10, h11, h12⟩ := t15
  have HU := Lib.hid h9; have HD := Lib.hid h10; have HU' := Lib.hid h11; have HD' := Lib.hid h12
  obtain ⟨A9, k9, c9, rfl⟩ := h9.form
  obtain ⟨A10, k10, c10, rfl⟩ := h10.form
  obtain ⟨A11, k11, c11, rfl⟩ := h11.form
  obtain ⟨A12, k12, c12, rfl⟩ := h12.form
  have HB9 := Lib.hid (HR0.out.ext hx)
  have HX9 := Lib.hid (HX0.out.trans hx)
  rw [q15]
  clear q15 h9 h10 h11 h12 hT
  obtain ⟨b0, b1, b2, b3, b4, b5⟩ := blk6c HB9.out
  obtain ⟨f0, f1, f2, f3, f4, f5⟩ := blk6f HB9.out
  obtain ⟨s9, hs⟩ : ∃ b_, b_ = negI (x + x').num := ⟨_, rfl⟩
  rw [← hs]
  have HS := Lib.hid hs
  clear hs
  obtain ⟨s10, hs⟩ : ∃ b_, b_ = negI (y + y').num := ⟨_, rfl⟩
  rw [← hs]
  have HS' := Lib.hid hs
  clear hs
  go_wp2_with fail
  refine bodyPost_ret (v := .agg #[.bool s9, .slice A9 k9 c9, .slice A10 k10 c10, .bool s10, .slice A11 k11 c11, .slice A12 k12 c12]) (by simp [results, Tryz.results132, go_sem, b0, b1, b2, b3, b4, b5]) rfl ?_
  exact ⟨_, rfl, ⟨_, _, _, _, by rw [HS.out, HS'.out], HU.out.other HB9.out rfl (ks6 _ _ _ _ _ _ _ _), HD.out.other HB9.out rfl (ks6 _ _ _ _ _ _ _ _), HU'.out.other HB9.out rfl (ks6 _ _ _ _ _ _ _ _), HD'.out.other HB9.out rfl (ks6 _ _ _ _ _ _ _ _)⟩, kext HX9.out (by omega) (ks6 _ _ _ _ _ _ _ _)⟩
set_option maxRecDepth 100000 in
set_option maxHeartbeats 3200000 in
theorem pscale_any (x y r : Rat) (v v' : Value) (w : World) (h : IsP x y v w) (h' : IsR r v' w) (hx1 : RB x) (hy1 : RB y) (hr : RB r) (hd1 : x.den * r.den < DB) (hd2 : y.den * r.den < DB) : Calls Tryz.prog 133 #[v, v'] w (Ret (IsP (x * r) (y * r)) w) := by
 have HX1 := Lib.hid hx1; have HY1 := Lib.hid hy1; have HR := Lib.hid hr; have HD1 := Lib.hid hd1; have HD2 := Lib.hid hd2
 clear hx1 hy1 hr hd1 hd2
 obtain ⟨u1, u2, u3, u4, rfl, h1, h2, h3, h4⟩ := h
 have HA1 := Lib.hid h1; have HA2 := Lib.hid h2; have HA3 := Lib.hid h3; have HA4 := Lib.hid h4
 obtain ⟨A1, k1, c1, rfl⟩ := h1.form
 obtain ⟨A2, k2, c2, rfl⟩ := h2.form
 obtain ⟨A3, k3, c3, rfl⟩ := h3.form
 obtain ⟨A4, k4, c4, rfl⟩ := h4.form
 clear h1 h2 h3 h4
 obtain ⟨s1, hs⟩ : ∃ b_, b_ = negI x.num := ⟨_, rfl⟩
 rw [← hs]
 have HE1 := Lib.hid hs
 clear hs
 obtain ⟨s2, hs⟩ : ∃ b_, b_ = negI y.num := ⟨_, rfl⟩
 rw [← hs]
 have HE2 := Lib.hid hs
 clear hs
 obtain ⟨u5, u6, rfl, h5, h6⟩ := h'
 have HA5 := Lib.hid h5; have HA6 := Lib.hid h6
 obtain ⟨A5, k5, c5, rfl⟩ := h5.form
 obtain ⟨A6, k6, c6, rfl⟩ := h6.form
 clear h5 h6
 obtain ⟨s3, hs⟩ : ∃ b_, b_ = negI r.num := ⟨_, rfl⟩
 rw [← hs]
 have HE5 := Lib.hid hs
 clear hs
 go_enter Tryz.func133, Tryz.ntmps133
 go_upto_region 1 with fail
 refine wp_at fun W0 hW0 => ?_
 have HX0 : Hid (Ext w W0) := by show Ext _ _; rw [hW0]; exact ((((Ext.refl _).alloc _).alloc _).alloc _)
 have HB1 : Hid (Blk 155 W0 (w.heap.size) [.bool s1, .slice A1 k1 c1, .slice A2 k2 c2, .bool s2, .slice A3 k3 c3, .slice A4 k4 c4]) := by show Blk _ _ _ _; rw [hW0]; exact ((Blk.new' rfl).ext ((Ext.refl _).alloc _)).ext ((Ext.refl _).alloc _)
 have HB2 : Hid (Blk 145 W0 (w.heap.size + 1) [.bool s3, .slice A5 k5 c5, .slice A6 k6 c6]) := by show Blk _ _ _ _; rw [hW0]; exact (Blk.new' (by simp)).ext ((Ext.refl _).alloc _)
 have HR0 : Hid (Blk 155 W0 (w.heap.size + 1 + 1) [.bool false, .slice none 0 0, .slice none 0 0, .bool false, .slice none 0 0, .slice none 0 0]) := by show Blk _ _ _ _; rw [hW0]; exact Blk.new' (by simp)
 clear hW0
 refine region_slotsL (l := 9) (N := 14) (W0 := W0) [5, 6, 7, 8, 9, 10, 11, 12, 13] [Fx (.pointer (some ⟨w.heap.size, 0, none⟩)), IsR x, IsR r, IsR (x * r), Fx (.pointer (some ⟨w.heap.size, 3, none⟩)), IsR y, IsR r, IsR (y * r), IsP (x * r) (y * r)] (by kernel_rfl) (by kernel_rfl) (by kernel_rfl) (by kernel_rfl) (Ext.refl _) ?kp (fun i hi => ?_) (fun xs w1 hx hT => ?_)
 case kp => exact ⟨Fx.kp _, IsR.kp _, IsR.kp _, IsR.kp _, Fx.kp _, IsR.kp _, IsR.kp _, IsR.kp _, IsP.kp _ _, trivial⟩
 ·match i, hi with
  |0, _ =>
   refine so rfl ?_
   intro fb wi hx hb hd K hK
   have x2 : fb.eval (.tmp 2) = .pointer (some ⟨w.heap.size, 0, none⟩) := hb 2 rfl
   refine sv rfl (v := .pointer (some ⟨w.heap.size, 0, none⟩)) (w' := wi) (fun ρ hρ hc => ?_) (hK _ _ (Ext.refl _) (rfl))
   have r2 := (hρ (.tmp 2)).trans x2
   simp [execOp, go_sem, r2]
  |1, _ =>
   refine so rfl ?_
   intro fb wi hx hb hd K hK
   have x5 : fb.eval (.tmp 5) = .pointer (some ⟨w.heap.size, 0, none⟩) := hd 0 5 rfl (by kernel_rfl)
   have cf0 := (HB1.out.ext hx).cell 0
   have cf1 := (HB1.out.ext hx).cell 1
   have cf2 := (HB1.out.ext hx).cell 2
   simp only [List.getElem?_cons_zero, List.getElem?_cons_succ] at cf0 cf1 cf2
   refine sv rfl (v := .agg #[.bool s1, .slice A1 k1 c1, .slice A2 k2 c2]) (w' := wi) (fun ρ hρ hc => ?_) (hK _ _ (Ext.refl _) (⟨_, _, by rw [HE1.out], HA1.out.ext (HX0.out.trans hx), HA2.out.ext (HX0.out.trans hx)⟩))
   have r5 := (hρ (.tmp 5)).trans x5
   simp [execOp, go_sem, r5, cf0, cf1, cf2]
  |2, _ =>
   refine so rfl ?_
   intro fb wi hx hb hd K hK
   have x3 : fb.eval (.tmp 3) = .pointer (some ⟨w.heap.size + 1, 0, none⟩) := hb 3 rfl
   have cf0 := (HB2.out.ext hx).cell 0
   have cf1 := (HB2.out.ext hx).cell 1
   have cf2 := (HB2.out.ext hx).cell 2
   simp only [List.getElem?_cons_zero, List.getElem?_cons_succ] at cf0 cf1 cf2
   refine sv rfl (v := .agg #[.bool s3, .slice A5 k5 c5, .slice A6 k6 c6]) (w' := wi) (fun ρ hρ hc => ?_) (hK _ _ (Ext.refl _) (⟨_, _, by rw [HE5.out], HA5.out.ext (HX0.out.trans hx), HA6.out.ext (HX0.out.trans hx)⟩))
   have r3 := (hρ (.tmp 3)).trans x3
   simp [execOp, go_sem, r3, cf0, cf1, cf2]
  |3, _ =>
   refine so rfl ?_
   intro fb wi hx hb hd K hK
   have y6 : IsR x (fb.eval (.tmp 6)) wi := hd 1 6 rfl (by kernel_rfl)
   have y7 : IsR r (fb.eval (.tmp 7)) wi := hd 2 7 rfl (by kernel_rfl)
   refine sc rfl 131 [.tmp 6, .tmp 7] #[145, 145] rfl _ Tryz.func131 rfl (by decide +kernel) [fb.eval (.tmp 6), fb.eval (.tmp 7)] rfl (rmul_any _ _ _ _ wi y6 y7 HX1.out HR.out HD1.out) (fun e w' h => rk hK h)
  |4, _ =>
   refine so rfl ?_
   intro fb wi hx hb hd K hK
   have x2 : fb.eval (.tmp 2) = .pointer (some ⟨w.heap.size, 0, none⟩) := hb 2 rfl
   refine sv rfl (v := .pointer (some ⟨w.heap.size, 3, none⟩)) (w' := wi) (fun ρ hρ hc => ?_) (hK _ _ (Ext.refl _) (rfl))
   have r2 := (hρ (.tmp 2)).trans x2
   simp [execOp, go_sem, r2]
  |5, _ =>
   refine so rfl ?_
   intro fb wi hx hb hd K hK
   have x9 : fb.eval (.tmp 9) = .pointer (some ⟨w.heap.size, 3, none⟩) := hd 4 9 rfl (by kernel_rfl)
   have cf0 := (HB1.out.ext hx).cell 3
   have cf1 := (HB1.out.ext hx).cell 4
   have cf2 := (HB1.out.ext hx).cell 5
   simp only [List.getElem?_cons_zero, List.getElem?_cons_succ] at cf0 cf1 cf2
   refine sv rfl (v := .agg #[.bool s2, .slice A3 k3 c3, .slice A4 k4 c4]) (w' := wi) (fun ρ hρ hc => ?_) (hK _ _ (Ext.refl _) (⟨_, _, by rw [HE2.out], HA3.out.ext (HX0.out.trans hx), HA4.out.ext (HX0.out.trans hx)⟩))
   have r9 := (hρ (.tmp 9)).trans x9
   simp [execOp, go_sem, r9, cf0, cf1, cf2]
  |6, _ =>
   refine so rfl ?_
   intro fb wi hx hb hd K hK
   have x3 : fb.eval (.tmp 3) = .pointer (some ⟨w.heap.size + 1, 0, none⟩) := hb 3 rfl
   have cf0 := (HB2.out.ext hx).cell 0
   have cf1 := (HB2.out.ext hx).cell 1
   have cf2 := (HB2.out.ext hx).cell 2
   simp only [List.getElem?_cons_zero, List.getElem?_cons_succ] at cf0 cf1 cf2
   refine sv rfl (v := .agg #[.bool s3, .slice A5 k5 c5, .slice A6 k6 c6]) (w' := wi) (fun ρ hρ hc => ?_) (hK _ _ (Ext.refl _) (⟨_, _, by rw [HE5.out], HA5.out.ext (HX0.out.trans hx), HA6.out.ext (HX0.out.trans hx)⟩))
   have r3 := (hρ (.tmp 3)).trans x3
   simp [execOp, go_sem, r3, cf0, cf1, cf2]
  |7, _ =>
   refine so rfl ?_
   intro fb wi hx hb hd K hK
   have y10 : IsR y (fb.eval (.tmp 10)) wi := hd 5 10 rfl (by kernel_rfl)
   have y11 : IsR r (fb.eval (.tmp 11)) wi := hd 6 11 rfl (by kernel_rfl)
   refine sc rfl 131 [.tmp 10, .tmp 11] #[145, 145] rfl _ Tryz.func131 rfl (by decide +kernel) [fb.eval (.tmp 10), fb.eval (.tmp 11)] rfl (rmul_any _ _ _ _ wi y10 y11 HY1.out HR.out HD2.out) (fun e w' h => rk hK h)
  |8, _ =>
   refine so rfl ?_
   intro fb wi hx hb hd K hK
   have y8 : IsR (x * r) (fb.eval (.tmp 8)) wi := hd 3 8 rfl (by kernel_rfl)
   have y12 : IsR (y * r) (fb.eval (.tmp 12)) wi := hd 7 12 rfl (by kernel_rfl)
   obtain ⟨p1, p2, z1, g1, g2⟩ := y8
   obtain ⟨p3, p4, z2, g3, g4⟩ := y12
   have x8 := z1
   have x12 := z2
   refine sv rfl (v := .agg #[.bool (negI (x * r).num), p1, p2, .bool (negI (y * r).num), p3, p4]) (w' := wi) (fun ρ hρ hc => ?_) (hK _ _ (Ext.refl _) (⟨_, _, _, _, rfl, g1, g2, g3, g4⟩))
   have r8 := (hρ (.tmp 8)).trans x8
   have r12 := (hρ (.tmp 12)).trans x12
   simp [execOp, go_sem, r8, r12]
  |n + 9, hn => exact absurd hn (by omega)
 ·skip
  have t13 : IsP (x * r) (y * r) (xs 8) w1 := hT 8 (by decide)
  simp only [frOf, putAll, List.drop_succ_cons, List.drop_zero, List.setIfInBounds_toArray, List.set_cons_succ, List.set_cons_zero, Nat.zero_add, Nat.reduceAdd]
  obtain ⟨u9, u10, u11, u12, q13, h9, h10, h11, h12⟩ := t13
  have HU := Lib.hid h9; have HD := Lib.hid h10; have HU' := Lib.hid h11; have HD' := Lib.hid h12
  obtain ⟨A9, k9, c9, rfl⟩ := h9.form
  obtain ⟨A10, k10, c10, rfl⟩ := h10.form
  obtain ⟨A11, k11, c11, rfl⟩ := h11.form
  obtain ⟨A12, k12, c12, rfl⟩ := h12.form
  have HB9 := Lib.hid (HR0.out.ext hx)
  have HX9 := Lib.hid (HX0.out.trans hx)
  rw [q13]
  clear q13 h9 h10 h11 h12 hT
  obtain ⟨b0, b1, b2, b3, b4, b5⟩ := blk6c HB9.out
  obtain ⟨f0, f1, f2, f3, f4, f5⟩ := blk6f HB9.out
  obtain ⟨s9, hs⟩ : ∃ b_, b_ = negI (x * r).num := ⟨_, rfl⟩
  rw [← hs]
  have HS := Lib.hid hs
  clear hs
  obtain ⟨s10, hs⟩ : ∃ b_, b_ = negI (y * r).num := ⟨_, rfl⟩
  rw [← hs]
  have HS' := Lib.hid hs
  clear hs
  go_wp2_with fail
  refine bodyPost_ret (v := .agg #[.bool s9, .slice A9 k9 c9, .slice A10 k10 c10, .bool s10, .slice A11 k11 c11, .slice A12 k12 c12]) (by simp [results, Tryz.results133, go_sem, b0, b1, b2, b3, b4, b5]) rfl ?_
  exact ⟨_, rfl, ⟨_, _, _, _, by rw [HS.out, HS'.out], HU.out.other HB9.out rfl (ks6 _ _ _ _ _ _ _ _), HD.out.other HB9.out rfl (ks6 _ _ _ _ _ _ _ _), HU'.out.other HB9.out rfl (ks6 _ _ _ _ _ _ _ _), HD'.out.other HB9.out rfl (ks6 _ _ _ _ _ _ _ _)⟩, kext HX9.out (by omega) (ks6 _ _ _ _ _ _ _ _)⟩
set_option maxRecDepth 100000 in
set_option maxHeartbeats 3200000 in
theorem pcross_any (x y x' y' : Rat) (v v' : Value) (w : World) (h : IsP x y v w) (h' : IsP x' y' v' w) (hx1 : RB x) (hx2 : RB x') (hy1 : RB y) (hy2 : RB y') (hp1 : RB (x * y')) (hp2 : RB (y * x')) (hd1 : x.den * y'.den < DB) (hd2 : y.den * x'.den < DB) (hq : (x * y').den * (y * x').den < DB) (hq' : (y * x').den < DB) : Calls Tryz.prog 107 #[v, v'] w (Ret (IsR (x * y' - y * x')) w) := by
 have HX1 := Lib.hid hx1; have HX2 := Lib.hid hx2; have HY1 := Lib.hid hy1; have HY2 := Lib.hid hy2; have HD1 := Lib.hid hd1; have HD2 := Lib.hid hd2; have HP1 := Lib.hid hp1; have HP2 := Lib.hid hp2; have HQ := Lib.hid hq; have HQ' := Lib.hid hq'
 clear hx1 hx2 hy1 hy2 hd1 hd2 hp1 hp2 hq hq'
 obtain ⟨u1, u2, u3, u4, rfl, h1, h2, h3, h4⟩ := h
 have HA1 := Lib.hid h1; have HA2 := Lib.hid h2; have HA3 := Lib.hid h3; have HA4 := Lib.hid h4
 obtain ⟨A1, k1, c1, rfl⟩ := h1.form
 obtain ⟨A2, k2, c2, rfl⟩ := h2.form
 obtain ⟨A3, k3, c3, rfl⟩ := h3.form
 obtain ⟨A4, k4, c4, rfl⟩ := h4.form
 clear h1 h2 h3 h4
 obtain ⟨s1, hs⟩ : ∃ b_, b_ = negI x.num := ⟨_, rfl⟩
 rw [← hs]
 have HE1 := Lib.hid hs
 clear hs
 obtain ⟨s2, hs⟩ : ∃ b_, b_ = negI y.num := ⟨_, rfl⟩
 rw [← hs]
 have HE2 := Lib.hid hs
 clear hs
 obtain ⟨u5, u6, u7, u8, rfl, h5, h6, h7, h8⟩ := h'
 have HA5 := Lib.hid h5; have HA6 := Lib.hid h6; have HA7 := Lib.hid h7; have HA8 := Lib.hid h8
 obtain ⟨A5, k5, c5, rfl⟩ := h5.form
 obtain ⟨A6, k6, c6, rfl⟩ := h6.form
 obtain ⟨A7, k7, c7, rfl⟩ := h7.form
 obtain ⟨A8, k8, c8, rfl⟩ := h8.form
 clear h5 h6 h7 h8
 obtain ⟨s3, hs⟩ : ∃ b_, b_ = negI x'.num := ⟨_, rfl⟩
 rw [← hs]
 have HE5 := Lib.hid hs
 clear hs
 obtain ⟨s4, hs⟩ : ∃ b_, b_ = negI y'.num := ⟨_, rfl⟩
 rw [← hs]
 have HE6 := Lib.hid hs
 clear hs
 go_enter Tryz.func107, Tryz.ntmps107
 go_upto_region 1 with fail
 refine wp_at fun W0 hW0 => ?_
 have HX0 : Hid (Ext w W0) := by show Ext _ _; rw [hW0]; exact ((((Ext.refl _).alloc _).alloc _).alloc _)
 have HB1 : Hid (Blk 155 W0 (w.heap.size) [.bool s1, .slice A1 k1 c1, .slice A2 k2 c2, .bool s2, .slice A3 k3 c3, .slice A4 k4 c4]) := by show Blk _ _ _ _; rw [hW0]; exact ((Blk.new' rfl).ext ((Ext.refl _).alloc _)).ext ((Ext.refl _).alloc _)
 have HB2 : Hid (Blk 155 W0 (w.heap.size + 1) [.bool s3, .slice A5 k5 c5, .slice A6 k6 c6, .bool s4, .slice A7 k7 c7, .slice A8 k8 c8]) := by show Blk _ _ _ _; rw [hW0]; exact (Blk.new' (by simp)).ext ((Ext.refl _).alloc _)
 have HR0 : Hid (Blk 145 W0 (w.heap.size + 1 + 1) [.bool false, .slice none 0 0, .slice none 0 0]) := by show Blk _ _ _ _; rw [hW0]; exact Blk.new' (by simp)
 clear hW0
 refine region_slotsL (l := 11) (N := 16) (W0 := W0) [5, 6, 7, 8, 9, 10, 11, 12, 13, 14, 15] [Fx (.pointer (some ⟨w.heap.size, 0, none⟩)), IsR x, Fx (.pointer (some ⟨w.heap.size + 1, 3, none⟩)), IsR y', IsR (x * y'), Fx (.pointer (some ⟨w.heap.size, 3, none⟩)), IsR y, Fx (.pointer (some ⟨w.heap.size + 1, 0, none⟩)), IsR x', IsR (y * x'), IsR (x * y' - y * x')] (by kernel_rfl) (by kernel_rfl) (by kernel_rfl) (by kernel_rfl) (Ext.refl _) ?kp (fun i hi => ?_) (fun xs w1 hx hT => ?_)
 case kp => exact ⟨Fx.kp _, IsR.kp _, Fx.kp _, IsR.kp _, IsR.kp _, Fx.kp _, IsR.kp _, Fx.kp _, IsR.kp _, IsR.kp _, IsR.kp _, trivial⟩
 ·match i, hi with
  |0, _ =>
   refine so rfl ?_
   intro fb wi hx hb hd K hK
   have x2 : fb.eval (.tmp 2) = .pointer (some ⟨w.heap.size, 0, none⟩) := hb 2 rfl
   refine sv rfl (v := .pointer (some ⟨w.heap.size, 0, none⟩)) (w' := wi) (fun ρ hρ hc => ?_) (hK _ _ (Ext.refl _) (rfl))
   have r2 := (hρ (.tmp 2)).trans x2
   simp [execOp, go_sem, r2]
  |1, _ =>
   refine so rfl ?_
   intro fb wi hx hb hd K hK
   have x5 : fb.eval (.tmp 5) = .pointer (some ⟨w.heap.size, 0, none⟩) := hd 0 5 rfl (by kernel_rfl)
   have cf0 := (HB1.out.ext hx).cell 0
   have cf1 := (HB1.out.ext hx).cell 1
   have cf2 := (HB1.out.ext hx).cell 2
   simp only [List.getElem?_cons_zero, List.getElem?_cons_succ] at cf0 cf1 cf2
   refine sv rfl (v := .agg #[.bool s1, .slice A1 k1 c1, .slice A2 k2 c2]) (w' := wi) (fun ρ hρ hc => ?_) (hK _ _ (Ext.refl _) (⟨_, _, by rw [HE1.out], HA1.out.ext (HX0.out.trans hx), HA2.out.ext (HX0.out.trans hx)⟩))
   have r5 := (hρ (.tmp 5)).trans x5
   simp [execOp, go_sem, r5, cf0, cf1, cf2]
  |2, _ =>
   refine so rfl ?_
   intro fb wi hx hb hd K hK
   have x3 : fb.eval (.tmp 3) = .pointer (some ⟨w.heap.size + 1, 0, none⟩) := hb 3 rfl
   refine sv rfl (v := .pointer (some ⟨w.heap.size + 1, 3, none⟩)) (w' := wi) (fun ρ hρ hc => ?_) (hK _ _ (Ext.refl _) (rfl))
   have r3 := (hρ (.tmp 3)).trans x3
   simp [execOp, go_sem, r3]
  |3, _ =>
   refine so rfl ?_
   intro fb wi hx hb hd K hK
   have x7 : fb.eval (.tmp 7) = .pointer (some ⟨w.heap.size + 1, 3, none⟩) := hd 2 7 rfl (by kernel_rfl)
   have cf0 := (HB2.out.ext hx).cell 3
   have cf1 := (HB2.out.ext hx).cell 4
   have cf2 := (HB2.out.ext hx).cell 5
   simp only [List.getElem?_cons_zero, List.getElem?_cons_succ] at cf0 cf1 cf2
   refine sv rfl (v := .agg #[.bool s4, .slice A7 k7 c7, .slice A8 k8 c8]) (w' := wi) (fun ρ hρ hc => ?_) (hK _ _ (Ext.refl _) (⟨_, _, by rw [HE6.out], HA7.out.ext (HX0.out.trans hx), HA8.out.ext (HX0.out.trans hx)⟩))
   have r7 := (hρ (.tmp 7)).trans x7
   simp [execOp, go_sem, r7, cf0, cf1, cf2]
  |4, _ =>
   refine so rfl ?_
   intro fb wi hx hb hd K hK
   have y6 : IsR x (fb.eval (.tmp 6)) wi := hd 1 6 rfl (by kernel_rfl)
   have y8 : IsR y' (fb.eval (.tmp 8)) wi := hd 3 8 rfl (by kernel_rfl)
   refine sc rfl 131 [.tmp 6, .tmp 8] #[145, 145] rfl _ Tryz.func131 rfl (by decide +kernel) [fb.eval (.tmp 6), fb.eval (.tmp 8)] rfl (rmul_any _ _ _ _ wi y6 y8 HX1.out HY2.out HD1.out) (fun e w' h => rk hK h)
  |5, _ =>
   refine so rfl ?_
   intro fb wi hx hb hd K hK
   have x2 : fb.eval (.tmp 2) = .pointer (some ⟨w.heap.size, 0, none⟩) := hb 2 rfl
   refine sv rfl (v := .pointer (some ⟨w.heap.size, 3, none⟩)) (w' := wi) (fun ρ hρ hc => ?_) (hK _ _ (Ext.refl _) (rfl))
   have r2 := (hρ (.tmp 2)).trans x2
   simp [execOp, go_sem, r2]
  |6, _ =>
   refine so rfl ?_
   intro fb wi hx hb hd K hK
   have x10 : fb.eval (.tmp 10) = .pointer (some ⟨w.heap.size, 3, none⟩) := hd 5 10 rfl (by kernel_rfl)
   have cf0 := (HB1.out.ext hx).cell 3
   have cf1 := (HB1.out.ext hx).cell 4
   have cf2 := (HB1.out.ext hx).cell 5
   simp only [List.getElem?_cons_zero, List.getElem?_cons_succ] at cf0 cf1 cf2
   refine sv rfl (v := .agg #[.bool s2, .slice A3 k3 c3, .slice A4 k4 c4]) (w' := wi) (fun ρ hρ hc => ?_) (hK _ _ (Ext.refl _) (⟨_, _, by rw [HE2.out], HA3.out.ext (HX0.out.trans hx), HA4.out.ext (HX0.out.trans hx)⟩))
   have r10 := (hρ (.tmp 10)).trans x10
   simp [execOp, go_sem, r10, cf0, cf1, cf2]
  |7, _ =>
   refine so rfl ?_
   intro fb wi hx hb hd K hK
   have x3 : fb.eval (.tmp 3) = .pointer (some ⟨w.heap.size + 1, 0, none⟩) := hb 3 rfl
   refine sv rfl (v := .pointer (some ⟨w.heap.size + 1, 0, none⟩)) (w' := wi) (fun ρ hρ hc => ?_) (hK _ _ (Ext.refl _) (rfl))
   have r3 := (hρ (.tmp 3)).trans x3
   simp [execOp, go_sem, r3]
  |8, _ =>
   refine so rfl ?_
   intro fb wi hx hb hd K hK
   have x12 : fb.eval (.tmp 12) = .pointer (some ⟨w.heap.size + 1, 0, none⟩) := hd 7 12 rfl (by kernel_rfl)
   have cf0 := (HB2.out.ext hx).cell 0
   have cf1 := (HB2.out.ext hx).cell 1
   have cf2 := (HB2.out.ext hx).cell 2
   simp only [List.getElem?_cons_zero, List.getElem?_cons_succ] at cf0 cf1 cf2
   refine sv rfl (v := .agg #[.bool s3, .slice A5 k5 c5, .slice A6 k6 c6]) (w' := wi) (fun ρ hρ hc => ?_) (hK _ _ (Ext.refl _) (⟨_, _, by rw [HE5.out], HA5.out.ext (HX0.out.trans hx), HA6.out.ext (HX0.out.trans hx)⟩))
   have r12 := (hρ (.tmp 12)).trans x12
   simp [execOp, go_sem, r12, cf0, cf1, cf2]
  |9, _ =>
   refine so rfl ?_
   intro fb wi hx hb hd K hK
   have y11 : IsR y (fb.eval (.tmp 11)) wi := hd 6 11 rfl (by kernel_rfl)
   have y13 : IsR x' (fb.eval (.tmp 13)) wi := hd 8 13 rfl (by kernel_rfl)
   refine sc rfl 131 [.tmp 11, .tmp 13] #[145, 145] rfl _ Tryz.func131 rfl (by decide +kernel) [fb.eval (.tmp 11), fb.eval (.tmp 13)] rfl (rmul_any _ _ _ _ wi y11 y13 HY1.out HX2.out HD2.out) (fun e w' h => rk hK h)
  |10, _ =>
   refine so rfl ?_
   intro fb wi hx hb hd K hK
   have y9 : IsR (x * y') (fb.eval (.tmp 9)) wi := hd 4 9 rfl (by kernel_rfl)
   have y14 : IsR (y * x') (fb.eval (.tmp 14)) wi := hd 9 14 rfl (by kernel_rfl)
   refine sc rfl 111 [.tmp 9, .tmp 14] #[145, 145] rfl _ Tryz.func111 rfl (by decide +kernel) [fb.eval (.tmp 9), fb.eval (.tmp 14)] rfl (rsub_any _ _ _ _ wi y9 y14 HP1.out HP2.out HQ.out HQ'.out) (fun e w' h => rk hK h)
  |n + 11, hn => exact absurd hn (by omega)
 ·skip
  have t15 : IsR (x * y' - y * x') (xs 10) w1 := hT 10 (by decide)
  simp only [frOf, putAll, List.drop_succ_cons, List.drop_zero, List.setIfInBounds_toArray, List.set_cons_succ, List.set_cons_zero, Nat.zero_add, Nat.reduceAdd]
  obtain ⟨u9, u10, q15, h9, h10⟩ := t15
  have HU := Lib.hid h9; have HD := Lib.hid h10
  obtain ⟨A9, k9, c9, rfl⟩ := h9.form
  obtain ⟨A10, k10, c10, rfl⟩ := h10.form
  have HB9 := Lib.hid (HR0.out.ext hx)
  have HX9 := Lib.hid (HX0.out.trans hx)
  rw [q15]
  clear q15 h9 h10 hT
  obtain ⟨b0, b1, b2⟩ := blk3c HB9.out
  obtain ⟨f0, f1, f2⟩ := blk3f HB9.out
  obtain ⟨s9, hs⟩ : ∃ b_, b_ = negI (x * y' - y * x').num := ⟨_, rfl⟩
  rw [← hs]
  have HS := Lib.hid hs
  clear hs
  go_wp2_with fail
  refine bodyPost_ret (v := .agg #[.bool s9, .slice A9 k9 c9, .slice A10 k10 c10]) (by simp [results, Tryz.results107, go_sem, b0, b1, b2]) rfl ?_
  exact ⟨_, rfl, ⟨_, _, by rw [HS.out], HU.out.other HB9.out rfl (ks3 _ _ _ _ _), HD.out.other HB9.out rfl (ks3 _ _ _ _ _)⟩, kext HX9.out (by omega) (ks3 _ _ _ _ _)⟩
set_option maxRecDepth 100000 in
set_option maxHeartbeats 3200000 in
theorem pon_any (x y x' y' r : Rat) (v v' z : Value) (w : World) (h : IsP x y v w) (h' : IsP x' y' v' w) (hr : IsR r z w) (hx1 : RB x) (hx2 : RB x') (hy1 : RB y) (hy2 : RB y') (hr1 : RB r) (hp1 : RB (x' - x)) (hp2 : RB (y' - y)) (hm1 : RB ((x' - x) * r)) (hm2 : RB ((y' - y) * r))
  (hd1 : x'.den * x.den < DB) (hd2 : y'.den * y.den < DB) (hq1 : x.den < DB) (hq2 : y.den < DB) (hs1 : (x' - x).den * r.den < DB) (hs2 : (y' - y).den * r.den < DB) (ha1 : x.den * ((x' - x) * r).den < DB) (ha2 : y.den * ((y' - y) * r).den < DB) : Calls Tryz.prog 108 #[v, v', z] w (Ret (IsP (x + (x' - x) * r) (y + (y' - y) * r)) w) := by
 have HX1 := Lib.hid hx1; have HX2 := Lib.hid hx2; have HY1 := Lib.hid hy1; have HY2 := Lib.hid hy2; have HRR := Lib.hid hr1; have HD1 := Lib.hid hd1; have HD2 := Lib.hid hd2; have HP1 := Lib.hid hp1; have HP2 := Lib.hid hp2; have HQ1 := Lib.hid hq1; have HQ2 := Lib.hid hq2; have HS1 := Lib.hid hs1; have HS2 := Lib.hid hs2; have HM1 := Lib.hid hm1; have HM2 := Lib.hid hm2; have HT1 := Lib.hid ha1; have HT2 := Lib.hid ha2
 clear hx1 hx2 hy1 hy2 hr1 hd1 hd2 hp1 hp2 hq1 hq2 hs1 hs2 hm1 hm2 ha1 ha2
 have HV := Lib.hid h; have HV' := Lib.hid h'; have HZ := Lib.hid hr
 obtain ⟨u1, u2, u3, u4, rfl, h1, h2, h3, h4⟩ := h
 have HA1 := Lib.hid h1; have HA2 := Lib.hid h2; have HA3 := Lib.hid h3; have HA4 := Lib.hid h4
 obtain ⟨A1, k1, c1, rfl⟩ := h1.form
 obtain ⟨A2, k2, c2, rfl⟩ := h2.form
 obtain ⟨A3, k3, c3, rfl⟩ := h3.form
 obtain ⟨A4, k4, c4, rfl⟩ := h4.form
 clear h1 h2 h3 h4
 obtain ⟨s1, hs⟩ : ∃ b_, b_ = negI x.num := ⟨_, rfl⟩
 rw [← hs] at HV ⊢
 have HE1 := Lib.hid hs
 clear hs
 obtain ⟨s2, hs⟩ : ∃ b_, b_ = negI y.num := ⟨_, rfl⟩
 rw [← hs] at HV ⊢
 have HE2 := Lib.hid hs
 clear hs
 obtain ⟨u5, u6, u7, u8, rfl, h5, h6, h7, h8⟩ := h'
 have HA5 := Lib.hid h5; have HA6 := Lib.hid h6; have HA7 := Lib.hid h7; have HA8 := Lib.hid h8
 obtain ⟨A5, k5, c5, rfl⟩ := h5.form
 obtain ⟨A6, k6, c6, rfl⟩ := h6.form
 obtain ⟨A7, k7, c7, rfl⟩ := h7.form
 obtain ⟨A8, k8, c8, rfl⟩ := h8.form
 clear h5 h6 h7 h8
 obtain ⟨s3, hs⟩ : ∃ b_, b_ = negI x'.num := ⟨_, rfl⟩
 rw [← hs] at HV' ⊢
 have HE5 := Lib.hid hs
 clear hs
 obtain ⟨s4, hs⟩ : ∃ b_, b_ = negI y'.num := ⟨_, rfl⟩
 rw [← hs] at HV' ⊢
 have HE6 := Lib.hid hs
 clear hs
 obtain ⟨u13, u14, rfl, h13, h14⟩ := hr
 have HA13 := Lib.hid h13; have HA14 := Lib.hid h14
 obtain ⟨A13, k13, c13, rfl⟩ := h13.form
 obtain ⟨A14, k14, c14, rfl⟩ := h14.form
 clear h13 h14
 obtain ⟨s5, hs⟩ : ∃ b_, b_ = negI r.num := ⟨_, rfl⟩
 rw [← hs] at HZ ⊢
 have HE13 := Lib.hid hs
 clear hs
 go_enter Tryz.func108, Tryz.ntmps108
 go_upto_region 1 with fail
 refine wp_at fun W0 hW0 => ?_
 have HX0 : Hid (Ext w W0) := by show Ext _ _; rw [hW0]; exact (((((Ext.refl _).alloc _).alloc _).alloc _).alloc _)
 have HB1 : Hid (Blk 155 W0 (w.heap.size) [.bool s1, .slice A1 k1 c1, .slice A2 k2 c2, .bool s2, .slice A3 k3 c3, .slice A4 k4 c4]) := by show Blk _ _ _ _; rw [hW0]; exact (((Blk.new' rfl).ext ((Ext.refl _).alloc _)).ext ((Ext.refl _).alloc _)).ext ((Ext.refl _).alloc _)
 have HB2 : Hid (Blk 155 W0 (w.heap.size + 1) [.bool s3, .slice A5 k5 c5, .slice A6 k6 c6, .bool s4, .slice A7 k7 c7, .slice A8 k8 c8]) := by show Blk _ _ _ _; rw [hW0]; exact ((Blk.new' (by simp)).ext ((Ext.refl _).alloc _)).ext ((Ext.refl _).alloc _)
 have HB3 : Hid (Blk 145 W0 (w.heap.size + 1 + 1) [.bool s5, .slice A13 k13 c13, .slice A14 k14 c14]) := by show Blk _ _ _ _; rw [hW0]; exact (Blk.new' (by simp)).ext ((Ext.refl _).alloc _)
 have HR0 : Hid (Blk 155 W0 (w.heap.size + 1 + 1 + 1) [.bool false, .slice none 0 0, .slice none 0 0, .bool false, .slice none 0 0, .slice none 0 0]) := by show Blk _ _ _ _; rw [hW0]; exact Blk.new' (by simp)
 clear hW0
 refine region_slotsL (l := 7) (N := 14) (W0 := W0) [7, 8, 9, 10, 11, 12, 13] [IsP x y, IsP x' y', IsP x y, IsP (x' - x) (y' - y), IsR r, IsP ((x' - x) * r) ((y' - y) * r), IsP (x + (x' - x) * r) (y + (y' - y) * r)] (by kernel_rfl) (by kernel_rfl) (by kernel_rfl) (by kernel_rfl) (Ext.refl _) ?kp (fun i hi => ?_) (fun xs w1 hx hT => ?_)
 case kp => exact ⟨IsP.kp _ _, IsP.kp _ _, IsP.kp _ _, IsP.kp _ _, IsR.kp _, IsP.kp _ _, IsP.kp _ _, trivial⟩
 ·match i, hi with
  |0, _ =>
   refine so rfl ?_
   intro fb wi hx hb hd K hK
   have x3 : fb.eval (.tmp 3) = .pointer (some ⟨w.heap.size, 0, none⟩) := hb 3 rfl
   have cf0 := (HB1.out.ext hx).cell 0
   have cf1 := (HB1.out.ext hx).cell 1
   have cf2 := (HB1.out.ext hx).cell 2
   have cf3 := (HB1.out.ext hx).cell 3
   have cf4 := (HB1.out.ext hx).cell 4
   have cf5 := (HB1.out.ext hx).cell 5
   simp only [List.getElem?_cons_zero, List.getElem?_cons_succ] at cf0 cf1 cf2 cf3 cf4 cf5
   refine sv rfl (v := .agg #[.bool s1, .slice A1 k1 c1, .slice A2 k2 c2, .bool s2, .slice A3 k3 c3, .slice A4 k4 c4]) (w' := wi) (fun ρ hρ hc => ?_) (hK _ _ (Ext.refl _) (HV.out.ext (HX0.out.trans hx)))
   have r3 := (hρ (.tmp 3)).trans x3
   simp [execOp, go_sem, r3, cf0, cf1, cf2, cf3, cf4, cf5]
  |1, _ =>
   refine so rfl ?_
   intro fb wi hx hb hd K hK
   have x4 : fb.eval (.tmp 4) = .pointer (some ⟨w.heap.size + 1, 0, none⟩) := hb 4 rfl
   have cf0 := (HB2.out.ext hx).cell 0
   have cf1 := (HB2.out.ext hx).cell 1
   have cf2 := (HB2.out.ext hx).cell 2
   have cf3 := (HB2.out.ext hx).cell 3
   have cf4 := (HB2.out.ext hx).cell 4
   have cf5 := (HB2.out.ext hx).cell 5
   simp only [List.getElem?_cons_zero, List.getElem?_cons_succ] at cf0 cf1 cf2 cf3 cf4 cf5
   refine sv rfl (v := .agg #[.bool s3, .slice A5 k5 c5, .slice A6 k6 c6, .bool s4, .slice A7 k7 c7, .slice A8 k8 c8]) (w' := wi) (fun ρ hρ hc => ?_) (hK _ _ (Ext.refl _) (HV'.out.ext (HX0.out.trans hx)))
   have r4 := (hρ (.tmp 4)).trans x4
   simp [execOp, go_sem, r4, cf0, cf1, cf2, cf3, cf4, cf5]
  |2, _ =>
   refine so rfl ?_
   intro fb wi hx hb hd K hK
   have x3 : fb.eval (.tmp 3) = .pointer (some ⟨w.heap.size, 0, none⟩) := hb 3 rfl
   have cf0 := (HB1.out.ext hx).cell 0
   have cf1 := (HB1.out.ext hx).cell 1
   have cf2 := (HB1.out.ext hx).cell 2
   have cf3 := (HB1.out.ext hx).cell 3
   have cf4 := (HB1.out.ext hx).cell 4
   have cf5 := (HB1.out.ext hx).cell 5
   simp only [List.getElem?_cons_zero, List.getElem?_cons_succ] at cf0 cf1 cf2 cf3 cf4 cf5
   refine sv rfl (v := .agg #[.bool s1, .slice A1 k1 c1, .slice A2 k2 c2, .bool s2, .slice A3 k3 c3, .slice A4 k4 c4]) (w' := wi) (fun ρ hρ hc => ?_) (hK _ _ (Ext.refl _) (HV.out.ext (HX0.out.trans hx)))
   have r3 := (hρ (.tmp 3)).trans x3
   simp [execOp, go_sem, r3, cf0, cf1, cf2, cf3, cf4, cf5]
  |3, _ =>
   refine so rfl ?_
   intro fb wi hx hb hd K hK
   have y8 : IsP x' y' (fb.eval (.tmp 8)) wi := hd 1 8 rfl (by kernel_rfl)
   have y9 : IsP x y (fb.eval (.tmp 9)) wi := hd 2 9 rfl (by kernel_rfl)
   refine sc rfl 87 [.tmp 8, .tmp 9] #[155, 155] rfl _ Tryz.func87 rfl (by decide +kernel) [fb.eval (.tmp 8), fb.eval (.tmp 9)] rfl (psub_any _ _ _ _ _ _ wi y8 y9 HX2.out HX1.out HY2.out HY1.out HD1.out HD2.out HQ1.out HQ2.out) (fun e w' h => rk hK h)
  |4, _ =>
   refine so rfl ?_
   intro fb wi hx hb hd K hK
   have x5 : fb.eval (.tmp 5) = .pointer (some ⟨w.heap.size + 1 + 1, 0, none⟩) := hb 5 rfl
   have cf0 := (HB3.out.ext hx).cell 0
   have cf1 := (HB3.out.ext hx).cell 1
   have cf2 := (HB3.out.ext hx).cell 2
   simp only [List.getElem?_cons_zero, List.getElem?_cons_succ] at cf0 cf1 cf2
   refine sv rfl (v := .agg #[.bool s5, .slice A13 k13 c13, .slice A14 k14 c14]) (w' := wi) (fun ρ hρ hc => ?_) (hK _ _ (Ext.refl _) (HZ.out.ext (HX0.out.trans hx)))
   have r5 := (hρ (.tmp 5)).trans x5
   simp [execOp, go_sem, r5, cf0, cf1, cf2]
  |5, _ =>
   refine so rfl ?_
   intro fb wi hx hb hd K hK
   have y10 : IsP (x' - x) (y' - y) (fb.eval (.tmp 10)) wi := hd 3 10 rfl (by kernel_rfl)
   have y11 : IsR r (fb.eval (.tmp 11)) wi := hd 4 11 rfl (by kernel_rfl)
   refine sc rfl 133 [.tmp 10, .tmp 11] #[155, 145] rfl _ Tryz.func133 rfl (by decide +kernel) [fb.eval (.tmp 10), fb.eval (.tmp 11)] rfl (pscale_any _ _ _ _ _ wi y10 y11 HP1.out HP2.out HRR.out HS1.out HS2.out) (fun e w' h => rk hK h)
  |6, _ =>
   refine so rfl ?_
   intro fb wi hx hb hd K hK
   have y7 : IsP x y (fb.eval (.tmp 7)) wi := hd 0 7 rfl (by kernel_rfl)
   have y12 : IsP ((x' - x) * r) ((y' - y) * r) (fb.eval (.tmp 12)) wi := hd 5 12 rfl (by kernel_rfl)
   refine sc rfl 132 [.tmp 7, .tmp 12] #[155, 155] rfl _ Tryz.func132 rfl (by decide +kernel) [fb.eval (.tmp 7), fb.eval (.tmp 12)] rfl (padd_any _ _ _ _ _ _ wi y7 y12 HX1.out HM1.out HY1.out HM2.out HT1.out HT2.out) (fun e w' h => rk hK h)
  |n + 7, hn => exact absurd hn (by omega)
 ·skip
  have t13 : IsP (x + (x' - x) * r) (y + (y' - y) * r) (xs 6) w1 := hT 6 (by decide)
  simp only [frOf, putAll, List.drop_succ_cons, List.drop_zero, List.setIfInBounds_toArray, List.set_cons_succ, List.set_cons_zero, Nat.zero_add, Nat.reduceAdd]
  obtain ⟨u9, u10, u11, u12, q13, h9, h10, h11, h12⟩ := t13
  have HU := Lib.hid h9; have HD := Lib.hid h10; have HU' := Lib.hid h11; have HD' := Lib.hid h12
  obtain ⟨A9, k9, c9, rfl⟩ := h9.form
  obtain ⟨A10, k10, c10, rfl⟩ := h10.form
  obtain ⟨A11, k11, c11, rfl⟩ := h11.form
  obtain ⟨A12, k12, c12, rfl⟩ := h12.form
  have HB9 := Lib.hid (HR0.out.ext hx)
  have HX9 := Lib.hid (HX0.out.trans hx)
  rw [q13]
  clear q13 h9 h10 h11 h12 hT
  obtain ⟨b0, b1, b2, b3, b4, b5⟩ := blk6c HB9.out
  obtain ⟨f0, f1, f2, f3, f4, f5⟩ := blk6f HB9.out
  obtain ⟨s9, hs⟩ : ∃ b_, b_ = negI (x + (x' - x) * r).num := ⟨_, rfl⟩
  rw [← hs]
  have HS := Lib.hid hs
  clear hs
  obtain ⟨s10, hs⟩ : ∃ b_, b_ = negI (y + (y' - y) * r).num := ⟨_, rfl⟩
  rw [← hs]
  have HS' := Lib.hid hs
  clear hs
  go_wp2_with fail
  refine bodyPost_ret (v := .agg #[.bool s9, .slice A9 k9 c9, .slice A10 k10 c10, .bool s10, .slice A11 k11 c11, .slice A12 k12 c12]) (by simp [results, Tryz.results108, go_sem, b0, b1, b2, b3, b4, b5]) rfl ?_
  exact ⟨_, rfl, ⟨_, _, _, _, by rw [HS.out, HS'.out], HU.out.other HB9.out rfl (ks6 _ _ _ _ _ _ _ _), HD.out.other HB9.out rfl (ks6 _ _ _ _ _ _ _ _), HU'.out.other HB9.out rfl (ks6 _ _ _ _ _ _ _ _), HD'.out.other HB9.out rfl (ks6 _ _ _ _ _ _ _ _)⟩, kext HX9.out (by omega) (ks6 _ _ _ _ _ _ _ _)⟩
end Go.Proofs.YtfegbaokcbjllaaGreat
