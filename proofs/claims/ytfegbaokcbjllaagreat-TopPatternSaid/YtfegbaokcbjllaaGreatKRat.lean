/- ratio: zero, positive, value, reduce, Of. -/
import Derived.Test.YtfegbaokcbjllaaGreatKNatA
/- integer: signed, Of, Norm, Neg. -/
namespace Go.Proofs.YtfegbaokcbjllaaGreat
open Go.RowKit
theorem signed_any (neg : Bool) (u : Value) (x : Nat) (w : World) (h : NatAt w u x) (hx : (limbs x).length ≤ 1000) : Calls Tryz.prog 145 #[.bool neg, u] w (Ret (IsZ (sgI neg x)) w) := by
 have HN := Lib.hid (fun W (he : Ext w W) => norm_any u x W (h.ext he) hx)
 have hp : (limbs x).length = 0 ↔ x = 0 := ⟨fun h => limbs_nil (List.eq_nil_of_length_eq_zero h), fun h => by rw [h, limbs_zero]; rfl⟩
 obtain ⟨A, k, c, rfl⟩ := h.form
 clear h hx
 go_enter Tryz.func145, Tryz.ntmps145
 go_wp2_with fail
 refine (HN.out _ ((Ext.refl _).alloc _)).mono ?_
 rintro e w1 ⟨v, rfl, hv, he1⟩
 have HV := Lib.hid hv
 have HX1 := Lib.hid he1
 have HB : Hid (Blk 143 w1 w.heap.size [.bool false, .slice none 0 0]) := (Blk.new' rfl).ext he1
 obtain ⟨A1, c1, rfl, h1, h2, h3⟩ := hv
 clear h1 h2 h3 HN he1
 obtain ⟨n, hn⟩ : ∃ n, n = (limbs x).length := ⟨_, rfl⟩
 rw [← hn] at HV hp ⊢
 clear hn
 have b0 := HB.out.cell 0; have b1 := HB.out.cell 1
 have f0 := HB.out.frozen 0; have f1 := HB.out.frozen 1
 simp only [List.getElem?_cons_succ, List.getElem?_cons_zero] at b0 b1
 have hl := HB.out.lt
 have HK := Lib.hid (fun b => HV.out.other HB.out rfl (ks2 w1 w.heap.size (.bool b) (.slice A1 n c1)))
 have HE := Lib.hid (fun b => kext (((Ext.refl _).alloc _).trans HX1.out) (Nat.le_refl _) (ks2 w1 w.heap.size (.bool b) (.slice A1 n c1)))
 cases neg
 ·clear hp
  go_wp2_with fail
  refine bodyPost_ret (v := .agg #[.bool false, .slice A1 n c1]) (by simp [results, Tryz.results145, go_sem, b0, b1]) rfl ?_
  exact ⟨_, rfl, isZ_of rfl (HK.out _), HE.out _⟩
 ·by_cases hx : x = 0
  ·have hn0 : n = 0 := hp.2 hx
   subst hn0
   have hd : false = (true && decide (0 < x)) := by rw [decide_eq_false (by omega)]; rfl
   have HD := Lib.hid hd
   clear hp hd
   go_wp2_with fail
   refine bodyPost_ret (v := .agg #[.bool false, .slice A1 0 c1]) (by simp [results, Tryz.results145, go_sem, b0, b1]) rfl ?_
   exact ⟨_, rfl, isZ_of HD.out (HK.out _), HE.out _⟩
  ·have hn0 : 0 < n := by
    rcases Nat.eq_zero_or_pos n with h | h
    ·exact absurd (hp.1 h) hx
    ·exact h
   have hd : true = (true && decide (0 < x)) := by rw [decide_eq_true (by omega)]; rfl
   have HD := Lib.hid hd
   have hn1 : (0 : Int) < n := by omega
   clear hp hd
   go_wp2_with fail
   refine bodyPost_ret (v := .agg #[.bool true, .slice A1 n c1]) (by simp [results, Tryz.results145, go_sem, b0, b1]) rfl ?_
   exact ⟨_, rfl, isZ_of HD.out (HK.out _), HE.out _⟩
theorem iof_any (z : Int) (w : World) (h0 : -9223372036854775808 ≤ z) (h1 : z ≤ 9223372036854775807) : Calls Tryz.prog 149 #[.int .i64 z] w (Ret (IsZ z) w) := by
 have HN := Lib.hid (fun (n : Nat) (hn : n < 18446744073709551616) W => nof_any n W hn)
 have HS := Lib.hid signed_any
 by_cases hz : z < 0
 ·obtain ⟨k, hk⟩ : ∃ k : Nat, z = -(k : Int) := ⟨z.natAbs, by omega⟩
  subst hk
  have hw : IntKind.u64.wrap (-(IntKind.u64.wrap (-(k : Int)))) = (k : Int) := by
   rw [IntKind.wrap_u64, IntKind.wrap_u64]; omega
  have hk : (limbs k).length ≤ 1000 := Nat.le_trans (limbs_le (k := 2) (by omega)) (by omega)
  have hk' : k < 18446744073709551616 := by omega
  have HE : Hid (sgI true k = -(k : Int)) := rfl
  clear h0 h1
  go_enter Tryz.func149, Tryz.ntmps149
  go_wp2_with fail
  refine (HN.out k hk' _).mono ?_
  rintro e w1 ⟨u, rfl, hu, he1⟩
  have hs := HS.out true u k w1 hu hk
  rw [HE.out] at hs
  have HS1 := Lib.hid hs
  have HX1 : Hid (Ext w w1) := ((Ext.refl _).alloc _).trans he1
  have HB1 : Hid (Blk 143 w1 w.heap.size [.bool false, .slice none 0 0]) := (Blk.new' rfl).ext he1
  obtain ⟨A, n, c, rfl⟩ := hu.form
  clear hu he1 hs HS HN
  go_wp2_with fail
  refine HS1.out.mono ?_
  rintro e w2 ⟨v, rfl, ⟨u2, rfl, hu2⟩, he2⟩
  have HU2 := Lib.hid hu2
  have HB2 := Lib.hid (HB1.out.ext he2)
  have HX2 := Lib.hid (HX1.out.trans he2)
  obtain ⟨A2, n2, c2, rfl⟩ := hu2.form
  clear hu2 he2 HX1 HB1 HS1
  have b0 := HB2.out.cell 0; have b1 := HB2.out.cell 1
  have f0 := HB2.out.frozen 0; have f1 := HB2.out.frozen 1
  simp only [List.getElem?_cons_succ, List.getElem?_cons_zero] at b0 b1
  obtain ⟨b, hb⟩ : ∃ b, b = negI (-(k : Int)) := ⟨_, rfl⟩
  rw [← hb]
  have HBE := Lib.hid hb
  clear hb
  go_wp2_with fail
  refine bodyPost_ret (v := .agg #[.bool b, .slice A2 n2 c2]) (by simp [results, Tryz.results149, go_sem, b0, b1]) rfl ?_
  refine ⟨_, rfl, ⟨_, by rw [HBE.out], HU2.out.other HB2.out rfl (ks2 _ _ _ _)⟩, kext HX2.out (Nat.le_refl _) (ks2 _ _ _ _)⟩
 ·obtain ⟨k, hk⟩ : ∃ k : Nat, z = (k : Int) := ⟨z.natAbs, by omega⟩
  subst hk
  have hw : IntKind.u64.wrap (k : Int) = (k : Int) := by
   rw [IntKind.wrap_u64]; omega
  have hk : (limbs k).length ≤ 1000 := Nat.le_trans (limbs_le (k := 2) (by omega)) (by omega)
  have hk' : k < 18446744073709551616 := by omega
  have HE : Hid (sgI false k = (k : Int)) := rfl
  clear h0 h1
  go_enter Tryz.func149, Tryz.ntmps149
  go_wp2_with fail
  refine (HN.out k hk' _).mono ?_
  rintro e w1 ⟨u, rfl, hu, he1⟩
  have hs := HS.out false u k w1 hu hk
  rw [HE.out] at hs
  have HS1 := Lib.hid hs
  have HX1 : Hid (Ext w w1) := ((Ext.refl _).alloc _).trans he1
  have HB1 : Hid (Blk 143 w1 w.heap.size [.bool false, .slice none 0 0]) := (Blk.new' rfl).ext he1
  obtain ⟨A, n, c, rfl⟩ := hu.form
  clear hu he1 hs HS HN
  go_wp2_with fail
  refine HS1.out.mono ?_
  rintro e w2 ⟨v, rfl, ⟨u2, rfl, hu2⟩, he2⟩
  have HU2 := Lib.hid hu2
  have HB2 := Lib.hid (HB1.out.ext he2)
  have HX2 := Lib.hid (HX1.out.trans he2)
  obtain ⟨A2, n2, c2, rfl⟩ := hu2.form
  clear hu2 he2 HX1 HB1 HS1
  have b0 := HB2.out.cell 0; have b1 := HB2.out.cell 1
  have f0 := HB2.out.frozen 0; have f1 := HB2.out.frozen 1
  simp only [List.getElem?_cons_succ, List.getElem?_cons_zero] at b0 b1
  obtain ⟨b, hb⟩ : ∃ b, b = negI (k : Int) := ⟨_, rfl⟩
  rw [← hb]
  have HBE := Lib.hid hb
  clear hb
  go_wp2_with fail
  refine bodyPost_ret (v := .agg #[.bool b, .slice A2 n2 c2]) (by simp [results, Tryz.results149, go_sem, b0, b1]) rfl ?_
  refine ⟨_, rfl, ⟨_, by rw [HBE.out], HU2.out.other HB2.out rfl (ks2 _ _ _ _)⟩, kext HX2.out (Nat.le_refl _) (ks2 _ _ _ _)⟩
theorem inorm_any (neg : Bool) (x : Nat) (v : Value) (w : World) (h : IsRaw neg x v w) (hx : (limbs x).length ≤ 1000) : Calls Tryz.prog 143 #[v] w (Ret (IsZ (sgI neg x)) w) := by
 obtain ⟨u, rfl, h⟩ := h
 have HS := Lib.hid (fun W (he : Ext w W) => signed_any neg u x W (h.ext he) hx)
 obtain ⟨A, n, c, rfl⟩ := h.form
 clear h hx
 go_enter Tryz.func143, Tryz.ntmps143
 go_wp2_with fail
 refine (HS.out _ (((Ext.refl _).alloc _).alloc _)).mono ?_
 rintro e w2 ⟨v, rfl, ⟨u2, rfl, hu2⟩, he2⟩
 have HU2 := Lib.hid hu2
 have HB2 : Hid (Blk 143 w2 (w.heap.size + 1) [.bool false, .slice none 0 0]) := (Blk.new' (by simp)).ext he2
 have HX2 : Hid (Ext w w2) := (((Ext.refl _).alloc _).alloc _).trans he2
 obtain ⟨A2, n2, c2, rfl⟩ := hu2.form
 clear hu2 he2 HS
 have b0 := HB2.out.cell 0; have b1 := HB2.out.cell 1
 have f0 := HB2.out.frozen 0; have f1 := HB2.out.frozen 1
 simp only [List.getElem?_cons_succ, List.getElem?_cons_zero] at b0 b1
 obtain ⟨b, hb⟩ : ∃ b, b = negI (sgI neg x) := ⟨_, rfl⟩
 rw [← hb]
 have HBE := Lib.hid hb
 clear hb
 go_wp2_with fail
 refine bodyPost_ret (v := .agg #[.bool b, .slice A2 n2 c2]) (by simp [results, Tryz.results143, go_sem, b0, b1]) rfl ?_
 refine ⟨_, rfl, ⟨_, by rw [HBE.out], HU2.out.other HB2.out rfl (ks2 _ _ _ _)⟩, kext HX2.out (Nat.le_succ _) (ks2 _ _ _ _)⟩
theorem ineg_any (neg : Bool) (x : Nat) (v : Value) (w : World) (h : IsRaw neg x v w) (hx : (limbs x).length ≤ 1000) : Calls Tryz.prog 152 #[v] w (Ret (IsZ (- sgI neg x)) w) := by
 obtain ⟨u, rfl, h⟩ := h
 have HS := Lib.hid (fun W (he : Ext w W) => signed_any (!neg) u x W (h.ext he) hx)
 rw [sgI_neg] at HS
 obtain ⟨A, n, c, rfl⟩ := h.form
 clear h hx
 go_enter Tryz.func152, Tryz.ntmps152
 go_wp2_with fail
 refine (HS.out _ (((Ext.refl _).alloc _).alloc _)).mono ?_
 rintro e w2 ⟨v, rfl, ⟨u2, rfl, hu2⟩, he2⟩
 have HU2 := Lib.hid hu2
 have HB2 : Hid (Blk 143 w2 (w.heap.size + 1) [.bool false, .slice none 0 0]) := (Blk.new' (by simp)).ext he2
 have HX2 : Hid (Ext w w2) := (((Ext.refl _).alloc _).alloc _).trans he2
 obtain ⟨A2, n2, c2, rfl⟩ := hu2.form
 clear hu2 he2 HS
 have b0 := HB2.out.cell 0; have b1 := HB2.out.cell 1
 have f0 := HB2.out.frozen 0; have f1 := HB2.out.frozen 1
 simp only [List.getElem?_cons_succ, List.getElem?_cons_zero] at b0 b1
 obtain ⟨b, hb⟩ : ∃ b, b = negI (- sgI neg x) := ⟨_, rfl⟩
 rw [← hb]
 have HBE := Lib.hid hb
 clear hb
 go_wp2_with fail
 refine bodyPost_ret (v := .agg #[.bool b, .slice A2 n2 c2]) (by simp [results, Tryz.results152, go_sem, b0, b1]) rfl ?_
 refine ⟨_, rfl, ⟨_, by rw [HBE.out], HU2.out.other HB2.out rfl (ks2 _ _ _ _)⟩, kext HX2.out (Nat.le_succ _) (ks2 _ _ _ _)⟩
set_option maxRecDepth 100000 in
set_option maxHeartbeats 3200000 in
theorem imul_any (a b : Bool) (x y : Nat) (u v : Value) (w : World) (h : IsRaw a x u w) (h' : IsRaw b y v w) (hx : (limbs x).length ≤ 1000) (hy : (limbs y).length ≤ 1000) (hxy : (limbs (x * y)).length ≤ 1000) : Calls Tryz.prog 122 #[u, v] w (Ret (IsZ (sgI a x * sgI b y)) w) := by
 obtain ⟨u, rfl, h⟩ := h
 obtain ⟨v, rfl, h'⟩ := h'
 obtain ⟨A, k, c, rfl⟩ := h.form
 obtain ⟨A2, k2, c2, rfl⟩ := h'.form
 have HA := Lib.hid h; have HA2 := Lib.hid h'
 have HXL := Lib.hid hx; have HYL := Lib.hid hy; have HZL := Lib.hid hxy
 clear h h' hx hy hxy
 rw [← sgI_mul]
 go_enter Tryz.func122, Tryz.ntmps122
 go_upto_region 1 with fail
 refine wp_at fun W0 hW0 => ?_
 have HX0 : Hid (Ext w W0) := by show Ext _ _; rw [hW0]; exact (((Ext.refl _).alloc _).alloc _).alloc _
 have HB1 : Hid (Blk 143 W0 (w.heap.size) [.bool a, .slice A k c]) := by show Blk _ _ _ _; rw [hW0]; exact ((Blk.new' rfl).ext ((Ext.refl _).alloc _)).ext ((Ext.refl _).alloc _)
 have HB2 : Hid (Blk 143 W0 (w.heap.size + 1) [.bool b, .slice A2 k2 c2]) := by show Blk _ _ _ _; rw [hW0]; exact (Blk.new' (by simp)).ext ((Ext.refl _).alloc _)
 have HB3 : Hid (Blk 143 W0 (w.heap.size + 1 + 1) [.bool false, .slice none 0 0]) := by show Blk _ _ _ _; rw [hW0]; exact Blk.new' (by simp)
 have HAW := Lib.hid (HA.out.ext HX0.out); have HAW2 := Lib.hid (HA2.out.ext HX0.out)
 clear hW0
 refine region_slotsL (l := 11) (N := 16) (W0 := W0) [5, 6, 7, 8, 9, 10, 11, 12, 13, 14, 15] [Fx (.pointer (some ⟨w.heap.size, 0, none⟩)), Fx (.bool a), Fx (.pointer (some ⟨w.heap.size + 1, 0, none⟩)), Fx (.bool b), Fx (.bool (a != b)), Fx (.pointer (some ⟨w.heap.size, 1, none⟩)), IsN x, Fx (.pointer (some ⟨w.heap.size + 1, 1, none⟩)), IsN y, IsN (x * y), IsZ (sgI (a != b) (x * y))] (by kernel_rfl) (by kernel_rfl) (by kernel_rfl) (by kernel_rfl) (Ext.refl _) ?kp (fun i hi => ?_) (fun xs w1 hx hT => ?_)
 case kp => exact ⟨Fx.kp _, Fx.kp _, Fx.kp _, Fx.kp _, Fx.kp _, Fx.kp _, IsN.kp _, Fx.kp _, IsN.kp _, IsN.kp _, IsZ.kp _, trivial⟩
 ·match i, hi with
  |0, _ =>
   refine so rfl ?_
   intro fb wi hx hb hd K hK
   have x2 : fb.eval (.tmp 2) = .pointer (some ⟨w.heap.size, 0, none⟩) := hb 2 rfl
   refine sv rfl (v := .pointer (some ⟨w.heap.size, 0, none⟩)) (w' := wi) (fun ρ hρ hc => ?_) (hK _ _ (Ext.refl _) (rfl))
   have r2 := (hρ (.tmp 2)).trans x2
   simp [execOp, go_sem, r2]
  |1, _ =>
   refine so rfl ?_
   intro fb wi hx hb hd K hK
   have x5 : fb.eval (.tmp 5) = .pointer (some ⟨w.heap.size, 0, none⟩) := hd 0 5 rfl (by kernel_rfl)
   have c0 := (HB1.out.ext hx).cell 0
   simp only [List.getElem?_cons_zero] at c0
   refine sv rfl (v := .bool a) (w' := wi) (fun ρ hρ hc => ?_) (hK _ _ (Ext.refl _) (rfl))
   have r5 := (hρ (.tmp 5)).trans x5
   simp [execOp, go_sem, r5, c0]
  |2, _ =>
   refine so rfl ?_
   intro fb wi hx hb hd K hK
   have x3 : fb.eval (.tmp 3) = .pointer (some ⟨w.heap.size + 1, 0, none⟩) := hb 3 rfl
   refine sv rfl (v := .pointer (some ⟨w.heap.size + 1, 0, none⟩)) (w' := wi) (fun ρ hρ hc => ?_) (hK _ _ (Ext.refl _) (rfl))
   have r3 := (hρ (.tmp 3)).trans x3
   simp [execOp, go_sem, r3]
  |3, _ =>
   refine so rfl ?_
   intro fb wi hx hb hd K hK
   have x7 : fb.eval (.tmp 7) = .pointer (some ⟨w.heap.size + 1, 0, none⟩) := hd 2 7 rfl (by kernel_rfl)
   have c0 := (HB2.out.ext hx).cell 0
   simp only [List.getElem?_cons_zero] at c0
   refine sv rfl (v := .bool b) (w' := wi) (fun ρ hρ hc => ?_) (hK _ _ (Ext.refl _) (rfl))
   have r7 := (hρ (.tmp 7)).trans x7
   simp [execOp, go_sem, r7, c0]
  |4, _ =>
   refine so rfl ?_
   intro fb wi hx hb hd K hK
   have x6 : fb.eval (.tmp 6) = .bool a := hd 1 6 rfl (by kernel_rfl)
   have x8 : fb.eval (.tmp 8) = .bool b := hd 3 8 rfl (by kernel_rfl)
   refine sv rfl (v := .bool (a != b)) (w' := wi) (fun ρ hρ hc => ?_) (hK _ _ (Ext.refl _) (rfl))
   have r6 := (hρ (.tmp 6)).trans x6
   have r8 := (hρ (.tmp 8)).trans x8
   simp [execOp, go_sem, r6, r8]
   cases a <;> cases b <;> rfl
  |5, _ =>
   refine so rfl ?_
   intro fb wi hx hb hd K hK
   have x2 : fb.eval (.tmp 2) = .pointer (some ⟨w.heap.size, 0, none⟩) := hb 2 rfl
   refine sv rfl (v := .pointer (some ⟨w.heap.size, 1, none⟩)) (w' := wi) (fun ρ hρ hc => ?_) (hK _ _ (Ext.refl _) (rfl))
   have r2 := (hρ (.tmp 2)).trans x2
   simp [execOp, go_sem, r2]
  |6, _ =>
   refine so rfl ?_
   intro fb wi hx hb hd K hK
   have x10 : fb.eval (.tmp 10) = .pointer (some ⟨w.heap.size, 1, none⟩) := hd 5 10 rfl (by kernel_rfl)
   have c0 := (HB1.out.ext hx).cell 1
   simp only [List.getElem?_cons_zero, List.getElem?_cons_succ] at c0
   refine sv rfl (v := .slice A k c) (w' := wi) (fun ρ hρ hc => ?_) (hK _ _ (Ext.refl _) (HAW.out.ext hx))
   have r10 := (hρ (.tmp 10)).trans x10
   simp [execOp, go_sem, r10, c0]
  |7, _ =>
   refine so rfl ?_
   intro fb wi hx hb hd K hK
   have x3 : fb.eval (.tmp 3) = .pointer (some ⟨w.heap.size + 1, 0, none⟩) := hb 3 rfl
   refine sv rfl (v := .pointer (some ⟨w.heap.size + 1, 1, none⟩)) (w' := wi) (fun ρ hρ hc => ?_) (hK _ _ (Ext.refl _) (rfl))
   have r3 := (hρ (.tmp 3)).trans x3
   simp [execOp, go_sem, r3]
  |8, _ =>
   refine so rfl ?_
   intro fb wi hx hb hd K hK
   have x12 : fb.eval (.tmp 12) = .pointer (some ⟨w.heap.size + 1, 1, none⟩) := hd 7 12 rfl (by kernel_rfl)
   have c0 := (HB2.out.ext hx).cell 1
   simp only [List.getElem?_cons_zero, List.getElem?_cons_succ] at c0
   refine sv rfl (v := .slice A2 k2 c2) (w' := wi) (fun ρ hρ hc => ?_) (hK _ _ (Ext.refl _) (HAW2.out.ext hx))
   have r12 := (hρ (.tmp 12)).trans x12
   simp [execOp, go_sem, r12, c0]
  |9, _ =>
   refine so rfl ?_
   intro fb wi hx hb hd K hK
   have y11 : IsN x (fb.eval (.tmp 11)) wi := hd 6 11 rfl (by kernel_rfl)
   have y13 : IsN y (fb.eval (.tmp 13)) wi := hd 8 13 rfl (by kernel_rfl)
   refine sc rfl 129 [.tmp 11, .tmp 13] #[141, 141] rfl _ Tryz.func129 rfl (by decide +kernel) [fb.eval (.tmp 11), fb.eval (.tmp 13)] rfl (nmul_any _ _ x y wi y11 y13 HXL.out HYL.out) (fun e w' h => rk hK h)
  |10, _ =>
   refine so rfl ?_
   intro fb wi hx hb hd K hK
   have x9 : fb.eval (.tmp 9) = .bool (a != b) := hd 4 9 rfl (by kernel_rfl)
   have y14 : IsN (x * y) (fb.eval (.tmp 14)) wi := hd 9 14 rfl (by kernel_rfl)
   refine sc rfl 145 [.tmp 9, .tmp 14] #[4, 141] rfl _ Tryz.func145 rfl (by decide +kernel) [.bool (a != b), fb.eval (.tmp 14)] (by simp only [List.map_cons, List.map_nil, x9]) (signed_any (a != b) _ (x * y) wi y14 HZL.out) (fun e w' h => rk hK h)
  |n + 11, hn => exact absurd hn (by omega)
 ·skip
  have t15 : IsZ (sgI (a != b) (x * y)) (xs 10) w1 := hT 10 (by decide)
  simp only [frOf, putAll, List.drop_succ_cons, List.drop_zero, List.setIfInBounds_toArray, List.set_cons_succ, List.set_cons_zero, Nat.zero_add, Nat.reduceAdd]
  obtain ⟨u15, q15, h15⟩ := t15
  have HU := Lib.hid h15
  obtain ⟨A5, k5, c5, rfl⟩ := h15.form
  have HB4 := Lib.hid (HB3.out.ext hx)
  have HX4 := Lib.hid (HX0.out.trans hx)
  rw [q15]
  clear q15 h15 hT
  have b0 := HB4.out.cell 0; have b1 := HB4.out.cell 1
  have f0 := HB4.out.frozen 0; have f1 := HB4.out.frozen 1
  simp only [List.getElem?_cons_succ, List.getElem?_cons_zero] at b0 b1
  obtain ⟨s, hs⟩ : ∃ s, s = negI (sgI (a != b) (x * y)) := ⟨_, rfl⟩
  rw [← hs]
  have HS := Lib.hid hs
  clear hs
  go_wp2_with fail
  refine bodyPost_ret (v := .agg #[.bool s, .slice A5 k5 c5]) (by simp [results, Tryz.results122, go_sem, b0, b1]) rfl ?_
  exact ⟨_, rfl, ⟨_, by rw [HS.out], HU.out.other HB4.out rfl (ks2 _ _ _ _)⟩, kext HX4.out (by omega) (ks2 _ _ _ _)⟩
theorem limbs_mono {x y : Nat} (h : x ≤ y) : (limbs x).length ≤ (limbs y).length := by
 rcases Nat.lt_or_ge (limbs y).length (limbs x).length with h1 | h1
 ·have := limbs_len_lt h1; omega
 ·exact h1
theorem sgI_add (a : Bool) (x y : Nat) : sgI a (x + y) = sgI a x + sgI a y := by unfold sgI; split <;> omega
theorem sgI_sub {x y : Nat} (a : Bool) (h : ¬ x < y) : sgI a (x - y) = sgI a x + sgI (!a) y := by unfold sgI; cases a <;> simp <;> omega
theorem sgI_sub' {x y : Nat} (a : Bool) (h : x < y) : sgI (!a) (y - x) = sgI a x + sgI (!a) y := by unfold sgI; cases a <;> simp <;> omega
set_option maxRecDepth 100000 in
set_option maxHeartbeats 3200000 in
theorem iadd_any (a b : Bool) (x y : Nat) (u v : Value) (w : World) (h : IsRaw a x u w) (h' : IsRaw b y v w) (hx : (limbs x).length ≤ 1000) (hy : (limbs y).length ≤ 1000) (hxy : (limbs (x + y)).length ≤ 1000) : Calls Tryz.prog 151 #[u, v] w (Ret (IsZ (sgI a x + sgI b y)) w) := by
 obtain ⟨u, rfl, h⟩ := h
 obtain ⟨v, rfl, h'⟩ := h'
 obtain ⟨A, k, c, rfl⟩ := h.form
 obtain ⟨A2, k2, c2, rfl⟩ := h'.form
 have HA := Lib.hid h; have HA2 := Lib.hid h'
 have HXL := Lib.hid hx; have HYL := Lib.hid hy; have HZL := Lib.hid hxy
 clear h h' hx hy hxy
 by_cases hab : b = a
 ·subst hab
  rw [← sgI_add]
  go_enter Tryz.func151, Tryz.ntmps151
  go_upto_region 2 with fail
  refine wp_at fun W0 hW0 => ?_
  have HX0 : Hid (Ext w W0) := by show Ext _ _; rw [hW0]; exact (((Ext.refl _).alloc _).alloc _).alloc _
  have HB1 : Hid (Blk 143 W0 (w.heap.size) [.bool b, .slice A k c]) := by show Blk _ _ _ _; rw [hW0]; exact ((Blk.new' rfl).ext ((Ext.refl _).alloc _)).ext ((Ext.refl _).alloc _)
  have HB2 : Hid (Blk 143 W0 (w.heap.size + 1) [.bool b, .slice A2 k2 c2]) := by show Blk _ _ _ _; rw [hW0]; exact (Blk.new' (by simp)).ext ((Ext.refl _).alloc _)
  have HB3 : Hid (Blk 143 W0 (w.heap.size + 1 + 1) [.bool false, .slice none 0 0]) := by show Blk _ _ _ _; rw [hW0]; exact Blk.new' (by simp)
  have HAW := Lib.hid (HA.out.ext HX0.out); have HAW2 := Lib.hid (HA2.out.ext HX0.out)
  clear hW0
  refine region_slotsL (l := 8) (N := 47) (W0 := W0) [14, 15, 16, 17, 18, 19, 20, 21] [Fx (.pointer (some ⟨w.heap.size, 0, none⟩)), Fx (.bool b), Fx (.pointer (some ⟨w.heap.size, 1, none⟩)), IsN x, Fx (.pointer (some ⟨w.heap.size + 1, 1, none⟩)), IsN y, IsN (x + y), IsZ (sgI b (x + y))] (by kernel_rfl) (by kernel_rfl) (by kernel_rfl) (by kernel_rfl) (Ext.refl _) ?kp (fun i hi => ?_) (fun xs w1 hx hT => ?_)
  case kp => exact ⟨Fx.kp _, Fx.kp _, Fx.kp _, IsN.kp _, Fx.kp _, IsN.kp _, IsN.kp _, IsZ.kp _, trivial⟩
  ·match i, hi with
   |0, _ =>
    refine so rfl ?_
    intro fb wi hx hb hd K hK
    have x2 : fb.eval (.tmp 2) = .pointer (some ⟨w.heap.size, 0, none⟩) := hb 2 rfl
    refine sv rfl (v := .pointer (some ⟨w.heap.size, 0, none⟩)) (w' := wi) (fun ρ hρ hc => ?_) (hK _ _ (Ext.refl _) (rfl))
    have r2 := (hρ (.tmp 2)).trans x2
    simp [execOp, go_sem, r2]
   |1, _ =>
    refine so rfl ?_
    intro fb wi hx hb hd K hK
    have x14 : fb.eval (.tmp 14) = .pointer (some ⟨w.heap.size, 0, none⟩) := hd 0 14 rfl (by kernel_rfl)
    have c0 := (HB1.out.ext hx).cell 0
    simp only [List.getElem?_cons_zero] at c0
    refine sv rfl (v := .bool b) (w' := wi) (fun ρ hρ hc => ?_) (hK _ _ (Ext.refl _) (rfl))
    have r14 := (hρ (.tmp 14)).trans x14
    simp [execOp, go_sem, r14, c0]
   |2, _ =>
    refine so rfl ?_
    intro fb wi hx hb hd K hK
    have x2 : fb.eval (.tmp 2) = .pointer (some ⟨w.heap.size, 0, none⟩) := hb 2 rfl
    refine sv rfl (v := .pointer (some ⟨w.heap.size, 1, none⟩)) (w' := wi) (fun ρ hρ hc => ?_) (hK _ _ (Ext.refl _) (rfl))
    have r2 := (hρ (.tmp 2)).trans x2
    simp [execOp, go_sem, r2]
   |3, _ =>
    refine so rfl ?_
    intro fb wi hx hb hd K hK
    have x16 : fb.eval (.tmp 16) = .pointer (some ⟨w.heap.size, 1, none⟩) := hd 2 16 rfl (by kernel_rfl)
    have c0 := (HB1.out.ext hx).cell 1
    simp only [List.getElem?_cons_zero, List.getElem?_cons_succ] at c0
    refine sv rfl (v := .slice A k c) (w' := wi) (fun ρ hρ hc => ?_) (hK _ _ (Ext.refl _) (HAW.out.ext hx))
    have r16 := (hρ (.tmp 16)).trans x16
    simp [execOp, go_sem, r16, c0]
   |4, _ =>
    refine so rfl ?_
    intro fb wi hx hb hd K hK
    have x3 : fb.eval (.tmp 3) = .pointer (some ⟨w.heap.size + 1, 0, none⟩) := hb 3 rfl
    refine sv rfl (v := .pointer (some ⟨w.heap.size + 1, 1, none⟩)) (w' := wi) (fun ρ hρ hc => ?_) (hK _ _ (Ext.refl _) (rfl))
    have r3 := (hρ (.tmp 3)).trans x3
    simp [execOp, go_sem, r3]
   |5, _ =>
    refine so rfl ?_
    intro fb wi hx hb hd K hK
    have x18 : fb.eval (.tmp 18) = .pointer (some ⟨w.heap.size + 1, 1, none⟩) := hd 4 18 rfl (by kernel_rfl)
    have c0 := (HB2.out.ext hx).cell 1
    simp only [List.getElem?_cons_zero, List.getElem?_cons_succ] at c0
    refine sv rfl (v := .slice A2 k2 c2) (w' := wi) (fun ρ hρ hc => ?_) (hK _ _ (Ext.refl _) (HAW2.out.ext hx))
    have r18 := (hρ (.tmp 18)).trans x18
    simp [execOp, go_sem, r18, c0]
   |6, _ =>
    refine so rfl ?_
    intro fb wi hx hb hd K hK
    have y17 : IsN x (fb.eval (.tmp 17)) wi := hd 3 17 rfl (by kernel_rfl)
    have y19 : IsN y (fb.eval (.tmp 19)) wi := hd 5 19 rfl (by kernel_rfl)
    refine sc rfl 150 [.tmp 17, .tmp 19] #[141, 141] rfl _ Tryz.func150 rfl (by decide +kernel) [fb.eval (.tmp 17), fb.eval (.tmp 19)] rfl (nadd_any _ _ x y wi y17 y19 HXL.out HYL.out) (fun e w' h => rk hK h)
   |7, _ =>
    refine so rfl ?_
    intro fb wi hx hb hd K hK
    have x15 : fb.eval (.tmp 15) = .bool b := hd 1 15 rfl (by kernel_rfl)
    have y20 : IsN (x + y) (fb.eval (.tmp 20)) wi := hd 6 20 rfl (by kernel_rfl)
    refine sc rfl 145 [.tmp 15, .tmp 20] #[4, 141] rfl _ Tryz.func145 rfl (by decide +kernel) [.bool b, fb.eval (.tmp 20)] (by simp only [List.map_cons, List.map_nil, x15]) (signed_any b _ (x + y) wi y20 HZL.out) (fun e w' h => rk hK h)
   |n + 8, hn => exact absurd hn (by omega)
  ·skip
   have t21 : IsZ (sgI b (x + y)) (xs 7) w1 := hT 7 (by decide)
   simp only [frOf, putAll, List.drop_succ_cons, List.drop_zero, List.setIfInBounds_toArray, List.set_cons_succ, List.set_cons_zero, Nat.zero_add, Nat.reduceAdd]
   obtain ⟨u15, q15, h15⟩ := t21
   have HU := Lib.hid h15
   obtain ⟨A5, k5, c5, rfl⟩ := h15.form
   have HB4 := Lib.hid (HB3.out.ext hx)
   have HX4 := Lib.hid (HX0.out.trans hx)
   rw [q15]
   clear q15 h15 hT
   have b0 := HB4.out.cell 0; have b1 := HB4.out.cell 1
   have f0 := HB4.out.frozen 0; have f1 := HB4.out.frozen 1
   simp only [List.getElem?_cons_succ, List.getElem?_cons_zero] at b0 b1
   obtain ⟨s, hs⟩ : ∃ s, s = negI (sgI b (x + y)) := ⟨_, rfl⟩
   rw [← hs]
   have HS := Lib.hid hs
   clear hs
   go_wp2_with fail
   refine bodyPost_ret (v := .agg #[.bool s, .slice A5 k5 c5]) (by simp [results, Tryz.results151, go_sem, b0, b1]) rfl ?_
   exact ⟨_, rfl, ⟨_, by rw [HS.out], HU.out.other HB4.out rfl (ks2 _ _ _ _)⟩, kext HX4.out (by omega) (ks2 _ _ _ _)⟩
 ·obtain rfl : b = !a := by cases a <;> cases b <;> first | rfl | exact absurd rfl hab
  clear hab
  have he : (a == !a) = false := by cases a <;> rfl
  go_enter Tryz.func151, Tryz.ntmps151
  go_wp2_with fail
  refine (nsub_any _ _ x y _ (HA.out.ext ((((Ext.refl _).alloc _).alloc _).alloc _)) (HA2.out.ext ((((Ext.refl _).alloc _).alloc _).alloc _)) HXL.out HYL.out).mono ?_
  intro e w1 hS
  clear he
  have hz : Ext w ((((w.alloc (.cells #[.bool a, .slice A k c] 143)).alloc (.cells #[.bool (!a), .slice A2 k2 c2] 143)).alloc (.cells #[.bool false, .slice none 0 0] 143))) := (((Ext.refl _).alloc _).alloc _).alloc _
  have hy1 : Blk 143 ((((w.alloc (.cells #[.bool a, .slice A k c] 143)).alloc (.cells #[.bool (!a), .slice A2 k2 c2] 143)).alloc (.cells #[.bool false, .slice none 0 0] 143))) (w.heap.size) [.bool a, .slice A k c] := ((Blk.new' rfl).ext ((Ext.refl _).alloc _)).ext ((Ext.refl _).alloc _)
  have hy2 : Blk 143 ((((w.alloc (.cells #[.bool a, .slice A k c] 143)).alloc (.cells #[.bool (!a), .slice A2 k2 c2] 143)).alloc (.cells #[.bool false, .slice none 0 0] 143))) (w.heap.size + 1) [.bool (!a), .slice A2 k2 c2] := (Blk.new' (by simp)).ext ((Ext.refl _).alloc _)
  have hy3 : Blk 143 ((((w.alloc (.cells #[.bool a, .slice A k c] 143)).alloc (.cells #[.bool (!a), .slice A2 k2 c2] 143)).alloc (.cells #[.bool false, .slice none 0 0] 143))) (w.heap.size + 1 + 1) [.bool false, .slice none 0 0] := Blk.new' (by simp)
  by_cases hlt : x < y
  ·obtain ⟨rfl, he1⟩ := hS.1 hlt
   have HX1 := Lib.hid (hz.trans he1)
   have HB1 := Lib.hid (hy1.ext he1); have HB2 := Lib.hid (hy2.ext he1); have HB3 := Lib.hid (hy3.ext he1)
   have HEQ := Lib.hid (sgI_sub' a hlt)
   have HYD : Hid ((limbs (y - x)).length ≤ 1000) := Nat.le_trans (limbs_mono (Nat.sub_le _ _)) HYL.out
   have HLT := Lib.hid hlt
   clear hS hz hy1 hy2 hy3 he1 hlt
   have b1 := HB1.out.cell 1; have d1 := HB2.out.cell 1
   simp only [List.getElem?_cons_succ, List.getElem?_cons_zero] at b1 d1
   go_wp2_with fail
   refine (nsub_any _ _ y x _ (HA2.out.ext HX1.out) (HA.out.ext HX1.out) HYL.out HXL.out).mono ?_
   intro e w3 hS
   obtain ⟨d, rfl, hd, he3⟩ := hS.2 (by have := HLT.out; omega)
   have HD := Lib.hid hd
   obtain ⟨A5, k5, c5, rfl⟩ := hd.form
   have HX4 := Lib.hid (HX1.out.trans he3)
   have HB6 := Lib.hid (HB2.out.ext he3); have HB4 := Lib.hid (HB3.out.ext he3)
   clear hd hS he3 b1 d1
   have b0 := HB6.out.cell 0
   simp only [List.getElem?_cons_zero] at b0
   go_wp2_with fail
   refine (signed_any (!a) _ (y - x) _ HD.out HYD.out).mono ?_
   rw [HEQ.out]
   rintro e w2 ⟨v, rfl, ⟨u2, rfl, hu2⟩, he2⟩
   clear b0
   have HU2 := Lib.hid hu2
   have HB5 := Lib.hid (HB4.out.ext he2)
   have HX5 := Lib.hid (HX4.out.trans he2)
   obtain ⟨A6, k6, c6, rfl⟩ := hu2.form
   clear hu2 he2
   have b0 := HB5.out.cell 0; have b1 := HB5.out.cell 1
   have f0 := HB5.out.frozen 0; have f1 := HB5.out.frozen 1
   simp only [List.getElem?_cons_succ, List.getElem?_cons_zero] at b0 b1
   obtain ⟨s, hs⟩ : ∃ s, s = negI (sgI a x + sgI (!a) y) := ⟨_, rfl⟩
   rw [← hs]
   have HS := Lib.hid hs
   clear hs
   go_wp2_with fail
   refine bodyPost_ret (v := .agg #[.bool s, .slice A6 k6 c6]) (by simp [results, Tryz.results151, go_sem, b0, b1]) rfl ?_
   exact ⟨_, rfl, ⟨_, by rw [HS.out], HU2.out.other HB5.out rfl (ks2 _ _ _ _)⟩, kext HX5.out (by omega) (ks2 _ _ _ _)⟩
  ·obtain ⟨d, rfl, hd, he1⟩ := hS.2 hlt
   have HD := Lib.hid hd
   obtain ⟨A5, k5, c5, rfl⟩ := hd.form
   have HX4 := Lib.hid (hz.trans he1)
   have HB6 := Lib.hid (hy1.ext he1); have HB4 := Lib.hid (hy3.ext he1)
   have HEQ := Lib.hid (sgI_sub a hlt)
   have HYD : Hid ((limbs (x - y)).length ≤ 1000) := Nat.le_trans (limbs_mono (Nat.sub_le _ _)) HXL.out
   clear hS hz hy1 hy2 hy3 he1 hd hlt
   have b0 := HB6.out.cell 0
   simp only [List.getElem?_cons_zero] at b0
   go_wp2_with fail
   refine (signed_any a _ (x - y) _ HD.out HYD.out).mono ?_
   rw [HEQ.out]
   rintro e w2 ⟨v, rfl, ⟨u2, rfl, hu2⟩, he2⟩
   clear b0
   have HU2 := Lib.hid hu2
   have HB5 := Lib.hid (HB4.out.ext he2)
   have HX5 := Lib.hid (HX4.out.trans he2)
   obtain ⟨A6, k6, c6, rfl⟩ := hu2.form
   clear hu2 he2
   have b0 := HB5.out.cell 0; have b1 := HB5.out.cell 1
   have f0 := HB5.out.frozen 0; have f1 := HB5.out.frozen 1
   simp only [List.getElem?_cons_succ, List.getElem?_cons_zero] at b0 b1
   obtain ⟨s, hs⟩ : ∃ s, s = negI (sgI a x + sgI (!a) y) := ⟨_, rfl⟩
   rw [← hs]
   have HS := Lib.hid hs
   clear hs
   go_wp2_with fail
   refine bodyPost_ret (v := .agg #[.bool s, .slice A6 k6 c6]) (by simp [results, Tryz.results151, go_sem, b0, b1]) rfl ?_
   exact ⟨_, rfl, ⟨_, by rw [HS.out], HU2.out.other HB5.out rfl (ks2 _ _ _ _)⟩, kext HX5.out (by omega) (ks2 _ _ _ _)⟩
def fitsV (z : Int) : Int := if -9223372036854775808 ≤ z ∧ z < 9223372036854775808 then z else 0
def fitsB (z : Int) : Bool := decide (-9223372036854775808 ≤ z ∧ z < 9223372036854775808)
def RetSl (w : World) (z : Int) (e : Ending) (w' : World) : Prop := e = .returned (.tuple #[.int .i64 (fitsV z), .bool (fitsB z)]) ∧ Ext w w'
theorem or_low (R X : Nat) (hR : R < 4294967296) (hX : X < 4294967296) : bits .or .u64 (R : Int) ((X : Int) * 4294967296) = ((R + X * 4294967296 : Nat) : Int) := by
 rw [show (X : Int) * 4294967296 = ((X * 4294967296 : Nat) : Int) by omega, bits_or_u64_nat _ _ (by omega) (by omega), Nat.or_comm]
 have h := Nat.two_pow_add_eq_or_of_lt (i := 32) (b := R) (by omega) X
 rw [show (2 : Nat) ^ 32 = 4294967296 from rfl] at h
 rw [Nat.mul_comm X, ← h, Nat.add_comm]
set_option maxRecDepth 100000 in
set_option maxHeartbeats 1600000 in
theorem ismall_any (z : Int) (v : Value) (w : World) (h : IsZ z v w) (hx : (limbs z.natAbs).length ≤ 1000) : Calls Tryz.prog 135 #[v] w (RetSl w z) := by
 obtain ⟨u, rfl, h⟩ := h
 have HN := Lib.hid (fun W (he : Ext w W) => inorm_any (negI z) z.natAbs _ W ⟨u, rfl, h.ext he⟩ hx)
 rw [sgI_negI] at HN
 obtain ⟨A, k, c, rfl⟩ := h.form
 clear h hx
 go_enter Tryz.func135, Tryz.ntmps135
 go_wp2_with fail
 refine (HN.out _ ((Ext.refl _).alloc _)).mono ?_
 rintro e w1 ⟨v, rfl, ⟨u1, rfl, hu1⟩, he1⟩
 have HX1 : Hid (Ext w w1) := ((Ext.refl _).alloc _).trans he1
 have HB1 : Hid (Blk 143 w1 w.heap.size [.bool (negI z), .slice A k c]) := (Blk.new' rfl).ext he1
 have HU1 := Lib.hid hu1
 obtain ⟨A1, c1, rfl, _, hc1, hc1'⟩ := hu1
 have b0 := HB1.out.cell 0; have b1 := HB1.out.cell 1
 have f0 := HB1.out.frozen 0; have f1 := HB1.out.frozen 1
 simp only [List.getElem?_cons_succ, List.getElem?_cons_zero] at b0 b1
 clear he1 HN
 obtain ⟨n, hn⟩ : ∃ n, n = (limbs z.natAbs).length := ⟨_, rfl⟩
 rw [← hn] at hc1 HU1 ⊢
 have HNE := Lib.hid hn
 clear hn
 obtain ⟨s, hs⟩ : ∃ s, s = negI z := ⟨_, rfl⟩
 rw [← hs] at b0 ⊢
 have HSE := Lib.hid hs
 clear hs
 by_cases h2 : 2 < n
 ·have hi : (2 : Int) < n := by omega
  go_wp2_with fail
  go_ret2
  have hb : 18446744073709551616 ≤ z.natAbs := by
   rcases Nat.lt_or_ge z.natAbs 18446744073709551616 with h | h
   ·have := limbs_le (k := 2) (n := z.natAbs) (by omega)
    rw [← HNE.out] at this; omega
   ·exact h
  refine ⟨?_, kext HX1.out (Nat.le_refl _) (ks2 _ _ _ _)⟩
  have e1 : fitsV z = 0 := if_neg (by omega)
  have e2 : fitsB z = false := decide_eq_false (by omega)
  rw [e1, e2]
  exact rfl
 ·have hi : ¬ (2 : Int) < n := by omega
  go_wp2_with fail
  refine wp_at fun W3 hW3 => ?_
  have HU3 : Hid (NatAt W3 (.slice A1 n c1) z.natAbs) := by show NatAt _ _ _; rw [hW3]; exact HU1.out.other HB1.out rfl (ks2 _ _ _ _)
  have HX3 : Hid (Ext w W3) := by show Ext _ _; rw [hW3]; exact kext HX1.out (Nat.le_refl _) (ks2 _ _ _ _)
  have HB3 : Hid (Blk 143 W3 w.heap.size [.bool s, .slice A1 n c1]) := by show Blk _ _ _ _; rw [hW3]; exact (HB1.out.set 0 _).set 1 _
  clear b0 b1 f0 f1 HB1 HX1 HU1 hW3
  have HL3 : Hid (LimsAt W3 A1 (limbs z.natAbs)) := by
   obtain ⟨A', c', e, h, _⟩ := HU3.out
   injection e with e
   rw [e]; exact h
  have HNL : Hid (natL (limbs z.natAbs) = z.natAbs) := natL_limbs _
  have HOK := Lib.hid (limbs_ok z.natAbs)
  obtain ⟨l, hl⟩ : ∃ l, l = limbs z.natAbs := ⟨_, rfl⟩
  rw [← hl] at HL3 HNL HOK HNE
  have HLN : Hid (l.length = n) := HNE.out.symm
  clear hl HNE
  go_loopw [4, 16] (fun ac i wr => ∃ k : Nat, k ≤ n ∧ i = .int .i64 k ∧ ac = .int .u64 ((natL (l.take k) : Nat) : Int) ∧ wr = W3) (fun _ i _ => n - (intOf i).toNat)
  case atStart => exact ⟨0, Nat.zero_le _, rfl, rfl, rfl⟩
  case round =>
   obtain ⟨k, hk, rfl, rfl, hwr⟩ := hrel
   by_cases hlt : k < n
   ·obtain ⟨ba, oa, rfl, q0⟩ := HL3.out k (by rw [HLN.out]; exact hlt)
    rw [← hwr] at q0
    have hk0 : (0 : Int) ≤ k := by omega
    have hk1 : (k : Int) < n := by omega
    have hXb := gN_lt HOK.out k
    have HTS := Lib.hid (natL_take_succ (l := l) (k := k) (by rw [HLN.out]; exact hlt))
    obtain ⟨X, hX⟩ : ∃ X, X = gN l k := ⟨_, rfl⟩
    rw [← hX] at q0 hXb HTS
    clear hX
    have HWR := Lib.hid hwr
    clear hwr
    have hk2 : k = 0 ∨ k = 1 := by omega
    rcases hk2 with rfl | rfl
    ·rw [Nat.add_zero] at q0
     have hz0 : natL (l.take 0) = 0 := rfl
     rw [hz0]
     rw [hz0] at HTS
     have hor : bits .or .u64 (0 : Int) (X : Int) = (X : Int) := by
      have := or_low 0 0 (by omega) (by omega)
      rw [show (0 : Int) = ((0 : Nat) : Int) from rfl, bits_or_u64_nat _ _ (by omega) (by omega)]; simp
     go_wp2_with fail
     go_roundw
     case rel =>
      refine ⟨1, by omega, by go_num, ?_, HWR.out⟩
      rw [HTS.out]
      simp
     case measure => simp [intOf]; omega
    ·have h1 := natL_lt (l := l.take 1) (fun x hx => HOK.out x (List.mem_of_mem_take hx))
     obtain ⟨R, hR⟩ : ∃ R, R = natL (l.take 1) := ⟨_, rfl⟩
     rw [← hR] at h1 HTS ⊢
     have hRb : R < 4294967296 := by rw [List.length_take, Nat.min_eq_left (by rw [HLN.out]; omega)] at h1; simpa using h1
     clear h1 hR
     have hor := or_low R X hRb hXb
     go_wp2_with fail
     go_roundw
     case rel =>
      refine ⟨2, by omega, by go_num, ?_, HWR.out⟩
      rw [HTS.out]
      congr 1
      omega
     case measure => simp [intOf]; omega
   ·obtain rfl : n = k := by omega
    have hT : natL (l.take n) = z.natAbs := by rw [natL_take_all (by rw [HLN.out]; exact Nat.le_refl _), HNL.out]
    rw [hT]
    clear hT
    subst hwr
    have b0 := HB3.out.cell 0
    simp only [List.getElem?_cons_zero] at b0
    have HZB : Hid (z.natAbs < 18446744073709551616) := by
     show _ < _
     rw [← HNL.out]
     refine Nat.lt_of_lt_of_le (natL_lt HOK.out) ?_
     rw [HLN.out]
     exact Nat.le_trans (Nat.pow_le_pow_right (by omega) (show n ≤ 2 by omega)) (by omega)
    clear hk hlt
    cases s
    ·have hz0 : ¬ z < 0 := by have := HSE.out; unfold negI at this; exact of_decide_eq_false this.symm
     by_cases hb : z.natAbs < 9223372036854775808
     ·have hb' : (z.natAbs : Int) < 9223372036854775808 := by omega
      go_wp2_with fail
      go_ret2
      refine ⟨?_, HX3.out⟩
      have e1 : fitsV z = (z.natAbs : Int) := (if_pos (by omega)).trans (by omega)
      have e2 : fitsB z = true := decide_eq_true (by omega)
      rw [e1, e2]
      exact rfl
     ·have hb' : ¬ (z.natAbs : Int) < 9223372036854775808 := by omega
      go_wp2_with fail
      go_ret2
      refine ⟨?_, HX3.out⟩
      have e1 : fitsV z = 0 := if_neg (by omega)
      have e2 : fitsB z = false := decide_eq_false (by omega)
      rw [e1, e2]
      exact rfl
    ·have hz0 : z < 0 := by have := HSE.out; unfold negI at this; exact of_decide_eq_true this.symm
     by_cases hb : z.natAbs ≤ 9223372036854775808
     ·have hb' : (z.natAbs : Int) ≤ 9223372036854775808 := by omega
      have hwz : wrap64 (IntKind.u64.wrap (-(z.natAbs : Int))) = z := by rw [IntKind.wrap_u64]; unfold wrap64; omega
      go_wp2_with fail
      go_ret2
      refine ⟨?_, HX3.out⟩
      have e1 : fitsV z = z := if_pos (by omega)
      have e2 : fitsB z = true := decide_eq_true (by omega)
      rw [e1, e2]
      first
       |exact rfl
       |(rw [hwz]; exact rfl)
     ·have hb' : ¬ (z.natAbs : Int) ≤ 9223372036854775808 := by omega
      go_wp2_with fail
      go_ret2
      refine ⟨?_, HX3.out⟩
      have e1 : fitsV z = 0 := if_neg (by omega)
      have e2 : fitsB z = false := decide_eq_false (by omega)
      rw [e1, e2]
      exact rfl
def IsR (r : Rat) : Value → World → Prop := fun v w => ∃ u d, v = .agg #[.bool (negI r.num), u, d] ∧ NatAt w u r.num.natAbs ∧ NatAt w d r.den
theorem IsR.ext {r : Rat} {v : Value} {w w2 : World} (h : IsR r v w) (he : Ext w w2) : IsR r v w2 := by
 obtain ⟨u, d, h1, h2, h3⟩ := h; exact ⟨u, d, h1, h2.ext he, h3.ext he⟩
theorem IsR.kp (r : Rat) : Kp (IsR r) := fun v w w' he h => by
 obtain ⟨u, d, h1, h2, h3⟩ := h; exact ⟨u, d, h1, h2.ext he, h3.ext he⟩
/- a block of the call's own, just made -/
def IsNew (t : TypeId) (n : Nat) (cs : List Value) : Value → World → Prop := fun v w => ∃ g, v = .pointer (some ⟨g, 0, none⟩) ∧ n ≤ g ∧ Blk t w g cs
theorem IsNew.kp (t : TypeId) (n : Nat) (cs : List Value) : Kp (IsNew t n cs) := fun v w w' he h => by
 obtain ⟨g, h1, h2, h3⟩ := h; exact ⟨g, h1, h2, h3.ext he⟩
theorem zero_any (u : Value) (x : Nat) (w : World) (h : NatAt w u x) : Calls Tryz.prog 128 #[u] w fun e w' => e = .returned (.bool (decide (x = 0))) ∧ Ext w w' := by
 have HC := Lib.hid (fun W (he : Ext w W) => ncmp_any u (.slice none 0 0) x 0 W (h.ext he) (nat_nil W))
 obtain ⟨A, k, c, rfl⟩ := h.form
 clear h
 by_cases hx : x = 0
 ·subst hx
  go_enter Tryz.func128, Tryz.ntmps128
  go_wp2_with fail
  refine (HC.out _ (Ext.refl _)).mono ?_
  rintro e w1 ⟨rfl, he1⟩
  rw [show cmpI ((0 : Nat) : Int) ((0 : Nat) : Int) = 0 from by decide]
  go_wp2_with fail
  go_ret
  exact ⟨rfl, he1⟩
 ·have hd : decide (x = 0) = false := decide_eq_false hx
  rw [hd]
  clear hd
  have hc : cmpI ((x : Nat) : Int) ((0 : Nat) : Int) = 1 := by unfold cmpI; rw [if_neg (by omega), if_pos (by omega)]
  go_enter Tryz.func128, Tryz.ntmps128
  go_wp2_with fail
  refine (HC.out _ (Ext.refl _)).mono ?_
  rintro e w1 ⟨rfl, he1⟩
  rw [hc]
  go_wp2_with fail
  go_ret
  exact ⟨rfl, he1⟩
theorem rposit_any (u : Value) (x : Nat) (w : World) (h : NatAt w u x) : Calls Tryz.prog 123 #[u] w (Ret (IsRaw false x) w) := by
 have HN := Lib.hid h
 obtain ⟨A, k, c, rfl⟩ := h.form
 clear h
 go_enter Tryz.func123, Tryz.ntmps123
 go_wp2_with fail
 refine bodyPost_ret (v := .agg #[.bool false, .slice A k c]) (by simp [results, Tryz.results123, go_sem]) rfl ?_
 exact ⟨_, rfl, ⟨_, rfl, HN.out.ext ((Ext.refl _).alloc _)⟩, (Ext.refl _).alloc _⟩
theorem value_any (r : Rat) (v : Value) (w : World) (h : IsR r v w) : Calls Tryz.prog 120 #[v] w fun e w' => e = .returned v ∧ Ext w w' := by
 obtain ⟨u, d, rfl, h1, h2⟩ := h
 have HZ := Lib.hid (fun W (he : Ext w W) => zero_any d r.den W (h2.ext he))
 obtain ⟨A, k, c, rfl⟩ := h1.form
 obtain ⟨A2, k2, c2, rfl⟩ := h2.form
 clear h1 h2
 have hd : decide (r.den = 0) = false := decide_eq_false r.den_nz
 rw [hd] at HZ
 clear hd
 generalize negI r.num = s
 go_enter Tryz.func120, Tryz.ntmps120
 go_wp2_with fail
 refine (HZ.out _ (((Ext.refl _).alloc _).alloc _)).mono ?_
 rintro e w1 ⟨rfl, he1⟩
 have HX1 : Hid (Ext w w1) := (((Ext.refl _).alloc _).alloc _).trans he1
 have HB1 : Hid (Blk 145 w1 w.heap.size [.bool s, .slice A k c, .slice A2 k2 c2]) := ((Blk.new' rfl).ext ((Ext.refl _).alloc _)).ext he1
 have HB2 : Hid (Blk 145 w1 (w.heap.size + 1) [.bool false, .slice none 0 0, .slice none 0 0]) := (Blk.new' (by simp)).ext he1
 have b0 := HB1.out.cell 0; have b1 := HB1.out.cell 1; have b2 := HB1.out.cell 2
 have d0 := HB2.out.cell 0; have d1 := HB2.out.cell 1; have d2 := HB2.out.cell 2
 have f0 := HB2.out.frozen 0; have f1 := HB2.out.frozen 1; have f2 := HB2.out.frozen 2
 simp only [List.getElem?_cons_succ, List.getElem?_cons_zero] at b0 b1 b2 d0 d1 d2
 clear he1 HZ
 go_wp2_with fail
 refine bodyPost_ret (v := .agg #[.bool s, .slice A k c, .slice A2 k2 c2]) (by simp [results, Tryz.results120, go_sem, d0, d1, d2]) rfl ?_
 exact ⟨rfl, kext HX1.out (Nat.le_succ _) (ks3 _ _ _ _ _)⟩
set_option maxRecDepth 100000 in
set_option maxHeartbeats 1600000 in
theorem reduce_any (neg : Bool) (x y : Nat) (v d : Value) (w : World) (h : IsRaw neg x v w) (h' : NatAt w d y) (hx : (limbs x).length ≤ 1000) (hy : y ≠ 0) (hb : y < DB) : Calls Tryz.prog 130 #[v, d] w (Ret (IsR (mkRat (sgI neg x) y)) w) := by
 obtain ⟨u, rfl, h⟩ := h
 have hyl : (limbs y).length ≤ 1000 := (sz_db hb).len (by omega)
 have hg : 0 < Nat.gcd x y := Nat.gcd_pos_of_pos_right _ (by omega)
 have hgy : Nat.gcd x y ≤ y := Nat.gcd_le_right _ (by omega)
 have hxd : x / Nat.gcd x y ≤ x := Nat.div_le_self _ _
 have HG := Lib.hid (fun W (he : Ext w W) => ngcd_db u d x y W (h.ext he) (h'.ext he) hx hb)
 have HD1 := Lib.hid (fun g W (he : Ext w W) (hh : NatAt W g (Nat.gcd x y)) => ndiv_db u g x (Nat.gcd x y) W (h.ext he) hh hx hg (Nat.lt_of_le_of_lt hgy hb))
 have HD2 := Lib.hid (fun g W (he : Ext w W) (hh : NatAt W g (Nat.gcd x y)) => ndiv_db d g y (Nat.gcd x y) W (h'.ext he) hh hyl hg (Nat.lt_of_le_of_lt hgy hb))
 have HN := Lib.hid (fun u W (hh : NatAt W u (x / Nat.gcd x y)) => inorm_any neg (x / Nat.gcd x y) _ W ⟨u, rfl, hh⟩ (Nat.le_trans (limbs_mono hxd) hx))
 have HR : Hid ((mkRat (sgI neg x) y).num = sgI neg (x / Nat.gcd x y)) := by
  show _ = _
  have e1 : (mkRat (sgI neg x) y).num.natAbs = x / Nat.gcd x y := by rw [mkRat_abs hy, sgI_abs]
  have e2 : negI (mkRat (sgI neg x) y).num = negI (sgI neg (x / Nat.gcd x y)) := by
   rw [mkRat_sgn hy, negI_sgI, negI_sgI]
   congr 1
   rw [decide_eq_decide]
   constructor
   ·intro hx0
    exact Nat.div_pos (Nat.le_of_dvd hx0 (Nat.gcd_dvd_left x y)) hg
   ·intro hx0
    rcases Nat.eq_zero_or_pos x with h0 | h0
    ·subst h0; simp at hx0
    ·exact h0
  rw [← sgI_negI (mkRat (sgI neg x) y).num, e1, e2, ← sgI_negI (sgI neg (x / Nat.gcd x y)), sgI_abs]
  congr 1
  rw [negI_sgI, negI_sgI]
  cases neg <;> simp
 have HDN : Hid ((mkRat (sgI neg x) y).den = y / Nat.gcd x y) := by show _ = _; rw [mkRat_den hy, sgI_abs]
 obtain ⟨A, k, c, rfl⟩ := h.form
 obtain ⟨A2, k2, c2, rfl⟩ := h'.form
 clear h h' hg hgy hb hx hyl hxd
 generalize mkRat (sgI neg x) y = R at HR HDN ⊢
 go_enter Tryz.func130, Tryz.ntmps130
 go_wp2_with fail
 refine (HG.out _ (((Ext.refl _).alloc _).alloc _)).mono ?_
 rintro e w1 ⟨g, rfl, hg, he1⟩
 have HX1 : Hid (Ext w w1) := (((Ext.refl _).alloc _).alloc _).trans he1
 have HB1 : Hid (Blk 143 w1 w.heap.size [.bool neg, .slice A k c]) := ((Blk.new' rfl).ext ((Ext.refl _).alloc _)).ext he1
 have HC1 : Hid (Blk 145 w1 (w.heap.size + 1) [.bool false, .slice none 0 0, .slice none 0 0]) := (Blk.new' (by simp)).ext he1
 have HGN := Lib.hid hg
 obtain ⟨A3, k3, c3, rfl⟩ := hg.form
 clear he1 hg HG
 have b1 := HB1.out.cell 1
 simp only [List.getElem?_cons_succ, List.getElem?_cons_zero] at b1
 go_wp2_with fail
 refine (HD1.out _ _ HX1.out HGN.out).mono ?_
 rintro e w2 ⟨q1, r1, rfl, hq1, _, he2⟩
 obtain ⟨A8, k8, c8, rfl⟩ := hq1.form
 have HX2 := Lib.hid (HX1.out.trans he2); have HG2 := Lib.hid (HGN.out.ext he2); have HQ1 := Lib.hid hq1; have HB2 := Lib.hid (HB1.out.ext he2); have HC2 := Lib.hid (HC1.out.ext he2)
 clear he2 hq1 b1
 go_wp2_with fail
 refine (HD2.out _ _ HX2.out HG2.out).mono ?_
 rintro e w3 ⟨q2, r2, rfl, hq2, _, he3⟩
 obtain ⟨A7, k7, c7, rfl⟩ := hq2.form
 have HX3 := Lib.hid (HX2.out.trans he3); have HQ3 := Lib.hid (HQ1.out.ext he3); have HQ2 := Lib.hid hq2; have HB3 := Lib.hid (HB2.out.ext he3); have HC3 := Lib.hid (HC2.out.ext he3)
 clear he3 hq2
 have b0 := HB3.out.cell 0
 simp only [List.getElem?_cons_zero] at b0
 go_wp2_with fail
 refine (HN.out _ _ HQ3.out).mono ?_
 rintro e w4 ⟨v, rfl, ⟨u4, rfl, hv⟩, he4⟩
 have HV := Lib.hid hv; have HX4 := Lib.hid (HX3.out.trans he4); have HQ4 := Lib.hid (HQ2.out.ext he4); have HC4 := Lib.hid (HC3.out.ext he4)
 obtain ⟨A6, k6, c6, rfl⟩ := hv.form
 clear he4 hv b0
 have d0 := HC4.out.cell 0; have d1 := HC4.out.cell 1; have d2 := HC4.out.cell 2
 have f0 := HC4.out.frozen 0; have f1 := HC4.out.frozen 1; have f2 := HC4.out.frozen 2
 simp only [List.getElem?_cons_succ, List.getElem?_cons_zero] at d0 d1 d2
 obtain ⟨s, hs⟩ : ∃ s, s = negI (sgI neg (x / Nat.gcd x y)) := ⟨_, rfl⟩
 rw [← hs]
 have HS := Lib.hid hs
 clear hs
 go_wp2_with fail
 refine bodyPost_ret (v := .agg #[.bool s, .slice A6 k6 c6, .slice A7 k7 c7]) (by simp [results, Tryz.results130, go_sem, d0, d1, d2]) rfl ?_
 refine ⟨_, rfl, ⟨_, _, by rw [HR.out, HS.out], ?_, ?_⟩, kext HX4.out (Nat.le_succ _) (ks3 _ _ _ _ _)⟩
 ·rw [HR.out]; exact HV.out.other HC4.out rfl (ks3 _ _ _ _ _)
 ·rw [HDN.out]; exact HQ4.out.other HC4.out rfl (ks3 _ _ _ _ _)
end Go.Proofs.YtfegbaokcbjllaaGreat
