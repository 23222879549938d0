/- The law SeamUnfits: for every input it returns true and leaves its arguments as they were. No conditions. -/
import Derived.Test.YtilkgocpkhionaaGreatRows
import Derived.OpenShut
import Derived.Test.YtilkgocpkhionaaGreatKRLens
import Derived.Test.YtilkgocpkhionaaGreatKAlive
import Derived.Test.YtilkgocpkhionaaGreatKOpenS
/- the reference: garmentref22.Lengths -/
namespace Go.Proofs.YtilkgocpkhionaaGreat
open Go.RowKit
set_option maxRecDepth 100000 in
set_option maxHeartbeats 3200000 in
theorem rlengths_any (a : StyA) (s : Sty) (z k : Int) (w : World) (hs : StyAt w a s) (hlt : LtS s) :
    Calls Tryz.prog 8 #[a.val, .int .i64 z, .int .i64 k] w (RetLn w s z k) := by
  have HS := Lib.hid hs; clear hs
  have HLT := Lib.hid hlt; clear hlt
  have HD := Lib.hid (fun p q W (h : Ext w W) => rinside_any a s p q W (HS.out.ext h))
  obtain ⟨nm, AS, nS, cS, AM, nM, cM, AP, nP, cP, AU, nU, cU, AK, nK, cK, AO, nO, cO⟩ := a
  have HLM : Hid (s.ms.length = nM) := HS.out.lM
  have HLP : Hid (s.ps.length = nP) := HS.out.lP
  have HLK : Hid (s.ss.length = nK) := HS.out.lK
  have hbM : nM ≤ 9223372036854775807 := HS.out.bM
  have hbP : nP ≤ 9223372036854775807 := HS.out.bP
  have hbK : nK ≤ 9223372036854775807 := HS.out.bK
  simp only [StyA.val] at HD ⊢
  go_enter Tryz.func8, Tryz.ntmps8
  go_upto_region 1 with fail
  refine wp_at fun w1 hW1 => ?_
  have HB1 : Hid (Blk 29 w1 w.heap.size [.string nm, .slice AS nS cS, .slice AM nM cM, .slice AP nP cP, .slice AU nU cU, .slice AK nK cK, .slice AO nO cO]) := by show Blk _ _ _ _; rw [hW1]; exact Blk.new' rfl
  have HX1 : Hid (Ext w w1) := by show Ext _ _; rw [hW1]; exact (Ext.refl w).alloc _
  clear hW1
  obtain ⟨c0, c1, c2, c3, c4, c5, c6⟩ := blk7 HB1.out
  by_cases hz0 : z < 0
  · have HR := Lib.hid (lens_1 (s := s) (z := z) (k := k) (fun h => by have := of_decide_eq_true h.1; omega))
    go_wp2_with fail
    refine bodyPost_ret (v := .tuple #[.int .i64 0, .int .i64 0, .int .i64 3]) (by simp [results, Tryz.results8, go_sem]) rfl ?_
    exact ⟨by rw [HR.out]; rfl, HX1.out⟩
  by_cases hz1 : (nM : Int) ≤ z
  · have HR := Lib.hid (lens_1 (s := s) (z := z) (k := k) (fun h => by have := of_decide_eq_true h.1; rw [HLM.out] at this; omega))
    go_wp2_with fail
    refine bodyPost_ret (v := .tuple #[.int .i64 0, .int .i64 0, .int .i64 3]) (by simp [results, Tryz.results8, go_sem]) rfl ?_
    exact ⟨by rw [HR.out]; rfl, HX1.out⟩
  have hsz : sizeB s z = true := decide_eq_true (by rw [HLM.out]; omega)
  by_cases hk0 : k < 0
  · have HR := Lib.hid (lens_1 (s := s) (z := z) (k := k) (fun h => by omega))
    clear hsz
    go_wp2_with fail
    refine bodyPost_ret (v := .tuple #[.int .i64 0, .int .i64 0, .int .i64 3]) (by simp [results, Tryz.results8, go_sem]) rfl ?_
    exact ⟨by rw [HR.out]; rfl, HX1.out⟩
  by_cases hk1 : (nK : Int) ≤ k
  · have HR := Lib.hid (lens_1 (s := s) (z := z) (k := k) (fun h => by rw [HLK.out] at h; omega))
    clear hsz
    go_wp2_with fail
    refine bodyPost_ret (v := .tuple #[.int .i64 0, .int .i64 0, .int .i64 3]) (by simp [results, Tryz.results8, go_sem]) rfl ?_
    exact ⟨by rw [HR.out]; rfl, HX1.out⟩
  obtain ⟨K, rfl⟩ := Int.eq_ofNat_of_zero_le (show 0 ≤ k by omega)
  have hK : K < nK := by omega
  have HH1 : Hid (sizeB s z = true ∧ 0 ≤ (K : Int) ∧ (K : Int) < s.ss.length) := ⟨hsz, by omega, by rw [HLK.out]; omega⟩
  have hz2 : 0 ≤ z ∧ z < nM := by
    unfold sizeB at hsz
    have := of_decide_eq_true hsz
    rw [HLM.out] at this; exact this
  clear hsz hk0 hk1 hz0 hz1
  obtain ⟨Z, rfl⟩ := Int.eq_ofNat_of_zero_le hz2.1
  have hZ : Z < nM := by omega
  clear hz2
  obtain ⟨bk, ok, hAK, hsm⟩ := (HS.out.K.ext HX1.out) K (by rw [HLK.out]; exact hK)
  simp only at hAK
  subst hAK
  obtain ⟨sm, hsmd⟩ : ∃ sm, sm = gSm s.ss K := ⟨_, rfl⟩
  rw [← hsmd] at hsm
  have HSM := Lib.hid hsmd; clear hsmd
  obtain ⟨pa, ea, pb, eb, rv, es⟩ := sm
  obtain ⟨k0, k1, k2, k3, k4, k5⟩ := hsm
  simp only at k0 k1 k2 k3 k4 k5
  have hpl : w.heap.size < w1.heap.size := HB1.out.lt
  have hxl : Ext w1 (w1.alloc (.cells #[.int .i64 pa, .int .i64 ea, .int .i64 pb, .int .i64 eb, .bool rv, .int .i64 es] 56)) := (Ext.refl _).alloc _
  have HXL := Lib.hid hxl; clear hxl
  go_wp2_with fail
  refine (HD.out pa ea _ (HX1.out.trans HXL.out)).mono ?_
  rintro e w2 ⟨rfl, he2⟩
  have HSB : Hid (Blk 56 w2 w1.heap.size [.int .i64 pa, .int .i64 ea, .int .i64 pb, .int .i64 eb, .bool rv, .int .i64 es]) := (Blk.new' rfl).ext he2
  have HB2 := Lib.hid ((HB1.out.ext HXL.out).ext he2)
  have HX2 := Lib.hid ((HX1.out.trans HXL.out).trans he2)
  clear he2 HXL c0 c1 c2 c3 c4 c5 c6 k0 k1 k2 k3 k4 k5 hpl
  have HSP : Hid ((gSm s.ss (K : Int).toNat).pa = pa ∧ (gSm s.ss (K : Int).toNat).ea = ea ∧ (gSm s.ss (K : Int).toNat).pb = pb ∧ (gSm s.ss (K : Int).toNat).eb = eb) := by
    show _ ∧ _
    rw [Int.toNat_natCast, ← HSM.out]; exact ⟨rfl, rfl, rfl, rfl⟩
  obtain ⟨c0, c1, c2, c3, c4, c5, c6⟩ := blk7 HB2.out
  obtain ⟨k0, k1, k2, k3, k4, k5⟩ := blk6 HSB.out
  cases hea : edgeB s pa ea
  · have HR := Lib.hid (lens_2 HH1.out (fun h => by rw [HSP.out.1, HSP.out.2.1, hea] at h; cases h.1))
    clear hea
    go_wp2_with fail
    refine bodyPost_ret (v := .tuple #[.int .i64 0, .int .i64 0, .int .i64 3]) (by simp [results, Tryz.results8, go_sem]) rfl ?_
    exact ⟨by rw [HR.out]; rfl, HX2.out⟩
  have HEA := Lib.hid hea; clear hea
  go_wp2_with fail
  refine (HD.out pb eb _ HX2.out).mono ?_
  rintro e w3 ⟨rfl, he3⟩
  have HB3 := Lib.hid (HB2.out.ext he3); have HSB3 := Lib.hid (HSB.out.ext he3); have HX3 := Lib.hid (HX2.out.trans he3)
  clear he3 c0 c1 c2 c3 c4 c5 c6 k0 k1 k2 k3 k4 k5
  obtain ⟨c0, c1, c2, c3, c4, c5, c6⟩ := blk7 HB3.out
  obtain ⟨k0, k1, k2, k3, k4, k5⟩ := blk6 HSB3.out
  cases heb : edgeB s pb eb
  · have HR := Lib.hid (lens_2 HH1.out (fun h => by rw [HSP.out.2.2.1, HSP.out.2.2.2, heb] at h; cases h.2))
    clear heb
    go_wp2_with fail
    refine bodyPost_ret (v := .tuple #[.int .i64 0, .int .i64 0, .int .i64 3]) (by simp [results, Tryz.results8, go_sem]) rfl ?_
    exact ⟨by rw [HR.out]; rfl, HX3.out⟩
  have HH2 : Hid (edgeB s (gSm s.ss (K : Int).toNat).pa (gSm s.ss (K : Int).toNat).ea = true ∧ edgeB s (gSm s.ss (K : Int).toNat).pb (gSm s.ss (K : Int).toNat).eb = true) := by
    show _ ∧ _
    rw [HSP.out.1, HSP.out.2.1, HSP.out.2.2.1, HSP.out.2.2.2]; exact ⟨HEA.out, heb⟩
  obtain ⟨qa0, qa1, qa2, qa3⟩ := edgeB_iff HEA.out
  obtain ⟨qb0, qb1, qb2, qb3⟩ := edgeB_iff heb
  clear heb HEA
  obtain ⟨PA, rfl⟩ := Int.eq_ofNat_of_zero_le qa0
  obtain ⟨PB, rfl⟩ := Int.eq_ofNat_of_zero_le qb0
  rw [HLP.out] at qa1 qb1
  rw [Int.toNat_natCast] at qa3 qb3
  have hPA : PA < nP := by omega
  have hPB : PB < nP := by omega
  obtain ⟨M, hM⟩ : ∃ M, M = gI s.ms Z := ⟨_, rfl⟩
  obtain ⟨RA, hRA⟩ : ∃ x, x = gradedR (gPc s.ps PA).es (gPc s.ps PA).cs M := ⟨_, rfl⟩
  obtain ⟨RB, hRB⟩ : ∃ x, x = gradedR (gPc s.ps PB).es (gPc s.ps PB).cs M := ⟨_, rfl⟩
  obtain ⟨LA, hLA⟩ : ∃ x, x = lnN (gPc s.ps PA) M ea.toNat := ⟨_, rfl⟩
  obtain ⟨LB, hLB⟩ : ∃ x, x = lnN (gPc s.ps PB) M eb.toNat := ⟨_, rfl⟩
  have HRA : Hid (gradedR (gPc s.ps (gSm s.ss (K : Int).toNat).pa.toNat).es (gPc s.ps (gSm s.ss (K : Int).toNat).pa.toNat).cs (gI s.ms (Z : Int).toNat) = RA) := by show _ = _; rw [HSP.out.1, Int.toNat_natCast, Int.toNat_natCast, hRA, hM]
  have HRB : Hid (gradedR (gPc s.ps (gSm s.ss (K : Int).toNat).pb.toNat).es (gPc s.ps (gSm s.ss (K : Int).toNat).pb.toNat).cs (gI s.ms (Z : Int).toNat) = RB) := by show _ = _; rw [HSP.out.2.2.1, Int.toNat_natCast, Int.toNat_natCast, hRB, hM]
  have HLA : Hid (lensA s Z K = LA) := by show _ = _; unfold lensA; rw [HSP.out.1, HSP.out.2.1, Int.toNat_natCast, Int.toNat_natCast, hLA, hM]
  have HLB : Hid (lensB s Z K = LB) := by show _ = _; unfold lensB; rw [HSP.out.2.2.1, HSP.out.2.2.2, Int.toNat_natCast, Int.toNat_natCast, hLB, hM]
  obtain ⟨bm, om, hAM, m0⟩ := (HS.out.M.ext HX3.out).g (k := Z) (by rw [HLM.out]; exact hZ)
  simp only at hAM
  subst hAM
  rw [← hM] at m0
  have HPS := Lib.hid HS.out.P
  simp only at HPS
  obtain ⟨bp, op, qa, hAP, hpA, hcA⟩ := (HPS.out.ext HX3.out) PA (by rw [HLP.out]; exact hPA)
  subst hAP
  have HCA : Hid (∀ W, Ext w3 W → Calls Tryz.prog 20 #[qa.val, .int .i64 M, .int .i64 ea] W fun e w' => e = .returned (.tuple #[.int .i64 (LA : Int), .int .i64 RA]) ∧ Ext W w') := fun W h => by
    rw [hLA, hRA]; exact redge_int qa (gPc s.ps PA) M ea W (hpA.ext h) qa2 qa3 (HLT.out.p PA (by rw [HLP.out]; exact hPA))
  have HCB : Hid (∀ (qb : PcA) W, PcAt W qb (gPc s.ps PB) → Calls Tryz.prog 20 #[qb.val, .int .i64 M, .int .i64 eb] W fun e w' => e = .returned (.tuple #[.int .i64 (LB : Int), .int .i64 RB]) ∧ Ext W w') := fun qb W h => by
    rw [hLB, hRB]; exact redge_int qb (gPc s.ps PB) M eb W h qb2 qb3 (HLT.out.p PB (by rw [HLP.out]; exact hPB))
  clear hpA hRA hRB hLA hLB hM
  obtain ⟨pnm, pAE, pnE, pcE, pgr, pAN, pnN, pcN, pAC, pnC, pcC, pAW, pnW, pcW, pmt⟩ := qa
  obtain ⟨a0, a1, a2, a3, a4, a5, a6⟩ := hcA
  simp only [PcA.val] at HCA a0 a1 a2 a3 a4 a5 a6
  have z0 := fun z : After w3 => After.cell c3 z
  have z1 := fun z : After w3 => After.cell c2 z
  have z2 := fun z : After w3 => After.cell k0 z
  have z3 := fun z : After w3 => After.cell k1 z
  have z4 := fun z : After w3 => After.cell m0 z
  have y0 := fun z : After w3 => After.cell a0 z
  have y1 := fun z : After w3 => After.cell a1 z
  have y2 := fun z : After w3 => After.cell a2 z
  have y3 := fun z : After w3 => After.cell a3 z
  have y4 := fun z : After w3 => After.cell a4 z
  have y5 := fun z : After w3 => After.cell a5 z
  have y6 := fun z : After w3 => After.cell a6 z
  clear qa0 qa1 qa2 qa3 qb0 qb1 qb2 qb3
  go_wp2_with fail
  refine region_ext (by kernel_rfl) (by kernel_rfl) ?_
  repeat (first | go_big_quiet_step ((go_at_call 20; exact after_call (HCA.out _ (After.ext _)))) | (go_big_quiet_want; go_simp; go_big_quiet_on))
  refine wpQuiet_nil ?_
  rintro w4 ⟨⟨_, he4⟩, rfl⟩
  clear z0 z1 z2 z3 z4 y0 y1 y2 y3 y4 y5 y6 a0 a1 a2 a3 a4 a5 a6 c0 c1 c2 c3 c4 c5 c6 k0 k1 k2 k3 k4 k5
  have HB4 := Lib.hid (HB3.out.ext he4); have HSB4 := Lib.hid (HSB3.out.ext he4); have HX4 := Lib.hid (HX3.out.trans he4); have m4 := he4.cell m0
  clear he4 m0 HCA
  obtain ⟨c0, c1, c2, c3, c4, c5, c6⟩ := blk7 HB4.out
  obtain ⟨k0, k1, k2, k3, k4, k5⟩ := blk6 HSB4.out
  by_cases hra : RA = 0
  rotate_left
  · have HR := Lib.hid (lens_3 HH1.out HH2.out (by rw [HRA.out]; exact hra))
    rw [HRA.out] at HR
    have hrb : (RA != 0) = true := by simp [hra]
    clear hra
    go_wp2_with fail
    refine bodyPost_ret (v := .tuple #[.int .i64 0, .int .i64 0, .int .i64 RA]) (by simp [results, Tryz.results8, go_sem]) rfl ?_
    exact ⟨by rw [HR.out]; rfl, HX4.out⟩
  subst hra
  obtain ⟨bp', op', qb, hAP, hpB, hcB⟩ := (HPS.out.ext HX4.out) PB (by rw [HLP.out]; exact hPB)
  injection hAP with hAP
  injection hAP with e1 e2
  subst e1; subst e2
  have HCB' := Lib.hid (fun W (h : Ext w4 W) => HCB.out qb W (hpB.ext h))
  clear hpB HCB
  obtain ⟨pnm, pAE, pnE, pcE, pgr, pAN, pnN, pcN, pAC, pnC, pcC, pAW, pnW, pcW, pmt⟩ := qb
  obtain ⟨a0, a1, a2, a3, a4, a5, a6⟩ := hcB
  simp only [PcA.val] at HCB' a0 a1 a2 a3 a4 a5 a6
  have z0 := fun z : After w4 => After.cell c3 z
  have z1 := fun z : After w4 => After.cell c2 z
  have z2 := fun z : After w4 => After.cell k2 z
  have z3 := fun z : After w4 => After.cell k3 z
  have z4 := fun z : After w4 => After.cell m4 z
  have y0 := fun z : After w4 => After.cell a0 z
  have y1 := fun z : After w4 => After.cell a1 z
  have y2 := fun z : After w4 => After.cell a2 z
  have y3 := fun z : After w4 => After.cell a3 z
  have y4 := fun z : After w4 => After.cell a4 z
  have y5 := fun z : After w4 => After.cell a5 z
  have y6 := fun z : After w4 => After.cell a6 z
  go_wp2_with fail
  refine region_ext (by kernel_rfl) (by kernel_rfl) ?_
  repeat (first | go_big_quiet_step ((go_at_call 20; exact after_call (HCB'.out _ (After.ext _)))) | (go_big_quiet_want; go_simp; go_big_quiet_on))
  refine wpQuiet_nil ?_
  rintro w5 ⟨⟨_, he5⟩, rfl⟩
  clear z0 z1 z2 z3 z4 y0 y1 y2 y3 y4 y5 y6 a0 a1 a2 a3 a4 a5 a6 c0 c1 c2 c3 c4 c5 c6 k0 k1 k2 k3 k4 k5 m4
  have HX5 := Lib.hid (HX4.out.trans he5); clear he5 HCB'
  by_cases hrb : RB = 0
  rotate_left
  · have HR := Lib.hid (lens_4 HH1.out HH2.out HRA.out (by rw [HRB.out]; exact hrb))
    rw [HRB.out] at HR
    have hrb' : (RB != 0) = true := by simp [hrb]
    clear hrb
    go_wp2_with fail
    refine bodyPost_ret (v := .tuple #[.int .i64 0, .int .i64 0, .int .i64 RB]) (by simp [results, Tryz.results8, go_sem]) rfl ?_
    exact ⟨by rw [HR.out]; rfl, HX5.out⟩
  subst hrb
  have HR := Lib.hid (lens_5 HH1.out HH2.out HRA.out HRB.out)
  rw [HLA.out, HLB.out] at HR
  go_wp2_with fail
  refine bodyPost_ret (v := .tuple #[.int .i64 (LA : Int), .int .i64 (LB : Int), .int .i64 0]) (by simp [results, Tryz.results8, go_sem]) rfl ?_
  exact ⟨by rw [HR.out]; rfl, HX5.out⟩
end Go.Proofs.YtilkgocpkhionaaGreat
/- the reference: garmentref22.Unfit -/
namespace Go.Proofs.YtilkgocpkhionaaGreat
open Go.RowKit
set_option maxRecDepth 100000 in
set_option maxHeartbeats 3200000 in
theorem runfit_any (a : StyA) (s : Sty) (z : Int) (w : World) (hs : StyAt w a s) (hlt : LtS s) :
    Calls Tryz.prog 10 #[a.val, .int .i64 z] w (RetUn w s z) := by
  have HS := Lib.hid hs; clear hs
  have HD := Lib.hid (fun k W (h : Ext w W) => rlengths_any a s z k W (HS.out.ext h) hlt)
  obtain ⟨nm, AS, nS, cS, AM, nM, cM, AP, nP, cP, AU, nU, cU, AK, nK, cK, AO, nO, cO⟩ := a
  have HLK : Hid (s.ss.length = nK) := HS.out.lK
  have HLM : Hid (s.ms.length = nM) := HS.out.lM
  have hn : nK ≤ 30 := by rw [← HLK.out]; exact hlt.K
  clear hlt
  simp only [StyA.val] at HD ⊢
  obtain ⟨i0, hi0, hz0, hz1, hz2⟩ := info_parts int_info
  go_enter Tryz.func10, Tryz.ntmps10
  go_upto_region 1 with fail
  refine wp_at fun w1 hW1 => ?_
  have HB1 : Hid (Blk 29 w1 w.heap.size [.string nm, .slice AS nS cS, .slice AM nM cM, .slice AP nP cP, .slice AU nU cU, .slice AK nK cK, .slice AO nO cO]) := by show Blk _ _ _ _; rw [hW1]; exact Blk.new' rfl
  have HX1 : Hid (Ext w w1) := by show Ext _ _; rw [hW1]; exact (Ext.refl w).alloc _
  clear hW1
  obtain ⟨c0, c1, c2, c3, c4, c5, c6⟩ := blk7 HB1.out
  by_cases g0 : z < 0
  · have HR : Hid (unfE s z = 3) := by show _ = _; unfold unfE; rw [if_pos (show sizeB s z = false from decide_eq_false (by omega))]
    go_wp2_with fail
    go_ret2
    exact retUn_bad HR.out (by decide) HX1.out
  by_cases g1 : (nM : Int) ≤ z
  · have HR : Hid (unfE s z = 3) := by show _ = _; unfold unfE; rw [if_pos (show sizeB s z = false from decide_eq_false (by rw [HLM.out]; omega))]
    go_wp2_with fail
    go_ret2
    exact retUn_bad HR.out (by decide) HX1.out
  have hsz : sizeB s z = true := decide_eq_true (by rw [HLM.out]; omega)
  have HUE : Hid (unfE s z = firstE (fun k => (lensV s z (k : Int)).2.2) nK) := by show _ = _; unfold unfE; rw [if_neg (by rw [hsz]; decide), HLK.out]
  clear hsz
  go_wp2_with fail
  clear c0 c1 c2 c3 c4 c5 c6
  go_loopw [6, 7] (fun v i wr => ∃ k : Nat, k ≤ nK ∧ i = .int .i64 k ∧ firstE (fun k => (lensV s z (k : Int)).2.2) k = 0 ∧ OwnI wr w1.heap.size v (unfTo s z k) ∧ Ext w1 wr) (fun _ i _ => nK - (intOf i).toNat)
  case atStart => exact ⟨0, Nat.zero_le _, rfl, rfl, OwnI.nil _ _, Ext.refl _⟩
  case round =>
    obtain ⟨k, hk, rfl, ht, ho, hx⟩ := hrel
    have HT := Lib.hid ht; clear ht
    have hlk := unfTo_len s z k
    obtain ⟨LK, hLK⟩ : ∃ LK, LK = unfTo s z k := ⟨_, rfl⟩
    rw [← hLK] at ho hlk
    have HLKE := Lib.hid hLK; have HO := Lib.hid ho; have HX := Lib.hid hx; clear hLK ho hx
    have HXw := Lib.hid (HX1.out.trans HX.out)
    obtain ⟨c0, c1, c2, c3, c4, c5, c6⟩ := blk7 (HB1.out.ext HX.out)
    by_cases hlt : k < nK
    · go_wp2_with fail
      refine (HD.out (k : Int) _ HXw.out).mono ?_
      rintro e w2 ⟨rfl, he2⟩
      have HX2 := Lib.hid (HX.out.trans he2)
      have HXr2 := Lib.hid he2
      clear he2 c0 c1 c2 c3 c4 c5 c6
      obtain ⟨bk, ok, hAK, hsm⟩ := (HS.out.K.ext (HX1.out.trans HX2.out)) k (by rw [HLK.out]; exact hlt)
      simp only at hAK
      subst hAK
      obtain ⟨es, hes⟩ : ∃ es, es = (gSm s.ss k).ease := ⟨_, rfl⟩
      have k5 := hsm.c5
      rw [← hes] at k5
      have HES := Lib.hid hes.symm
      clear hsm hes
      obtain ⟨c0, c1, c2, c3, c4, c5, c6⟩ := blk7 (HB1.out.ext HX2.out)
      obtain ⟨bd1, bd2, bd3, bd4⟩ := lensV_bd s z k
      obtain ⟨V, hV⟩ : ∃ V, V = lensV s z k := ⟨_, rfl⟩
      have HV := Lib.hid hV
      rw [← hV] at bd1 bd2 bd3 bd4 ⊢
      clear hV
      obtain ⟨LA, LB, E⟩ := V
      simp only at bd1 bd2 bd3 bd4
      simp only [LenV]
      by_cases hz : E = 0
      rotate_left
      · have HR : Hid (unfE s z = E) := by show _ = _; rw [HUE.out]; rw [firstE_at hlt HT.out (by rw [← HV.out]; exact hz), ← HV.out]
        have hzb : (E != 0) = true := by simp [hz]
        have HZ := Lib.hid hz; clear hz
        go_wp2_with fail
        go_ret2
        exact retUn_bad HR.out HZ.out (HX1.out.trans HX2.out)
      subst hz
      have HT' := Lib.hid (firstE_succ (f := fun k => (lensV s z (k : Int)).2.2) HT.out (by rw [← HV.out]))
      have HUF : Hid (unfF s z k = decide (es < gapN LA LB)) := by show _ = _; unfold unfF; rw [HES.out, ← HV.out]
      have hbb : w1.heap.size ≤ w2.heap.size := HX2.out.size
      have wA : IntKind.i64.wrap (LA - LB) = LA - LB := IntWalk.i64_in _ (by omega)
      have wB : IntKind.i64.wrap (LB - LA) = LB - LA := IntWalk.i64_in _ (by omega)
      have H63 : Hid (LK.length + 1 ≤ maxLen) := by show _ ≤ _; unfold maxLen; omega
      have H64 : Hid ((LK.length + 1) * 8 ≤ 140737488355328) := by show _ ≤ _; omega
      have HC6 : Hid (w1.heap.size ≤ (w2.alloc (.cells #[.int .i64 (k : Int)] 3)).heap.size) := by show _ ≤ _; simp; omega
      by_cases hu1 : es < LA - LB
      · have HU : Hid (unfF s z k = true) := by show _ = _; rw [HUF.out]; exact decide_eq_true (by unfold gapN; split <;> omega)
        go_wp2_with (at_builtin; refine wpList_append_own _ rfl (.tmp 60) (.tmp 62) 23 rfl w1.heap.size 3 i0 (.int .i64 0) 1 8 Tryz.underlying23 hi0 hz0 hz1 hz2 rfl (by decide) _ _ _ rfl (World.ownsRow.alloc (own_ext HO.out HXr2.out) _) ⟨w2.heap.size, 0, none⟩ 1 1 [.int .i64 (k : Int)] rfl rfl (World.news_of_block (cs := #[.int .i64 (k : Int)]) (t := 3) (fr := (0, 0)) (heap_alloc_new w2 _)) (by simp [Value.oneCell']) H63.out H64.out HC6.out ?_)
        intro v' w4 hown' hgrow _
        have hO' : OwnI w4 w1.heap.size v' (unfTo s z (k + 1)) := by
          rw [unfTo_yes HU.out, ← HLKE.out]
          unfold OwnI icells
          rw [List.length_append, List.map_append]
          exact hown'
        have hx' : Ext w1 w4 := (HX2.out.alloc _).grown hgrow (fun g hg => (World.ownsRow.lt HO.out g hg).1)
        have HO' := Lib.hid hO'; clear hO' hown' hgrow
        go_wp2_with fail
        go_roundw
        case rel => exact ⟨k + 1, by omega, by go_num, HT'.out, HO'.out, hx'⟩
        case measure => simp [intOf]; omega
      by_cases hu2 : es < LB - LA
      · have HU : Hid (unfF s z k = true) := by show _ = _; rw [HUF.out]; exact decide_eq_true (by unfold gapN; split <;> omega)
        go_wp2_with (at_builtin; refine wpList_append_own _ rfl (.tmp 60) (.tmp 62) 23 rfl w1.heap.size 3 i0 (.int .i64 0) 1 8 Tryz.underlying23 hi0 hz0 hz1 hz2 rfl (by decide) _ _ _ rfl (World.ownsRow.alloc (own_ext HO.out HXr2.out) _) ⟨w2.heap.size, 0, none⟩ 1 1 [.int .i64 (k : Int)] rfl rfl (World.news_of_block (cs := #[.int .i64 (k : Int)]) (t := 3) (fr := (0, 0)) (heap_alloc_new w2 _)) (by simp [Value.oneCell']) H63.out H64.out HC6.out ?_)
        intro v' w4 hown' hgrow _
        have hO' : OwnI w4 w1.heap.size v' (unfTo s z (k + 1)) := by
          rw [unfTo_yes HU.out, ← HLKE.out]
          unfold OwnI icells
          rw [List.length_append, List.map_append]
          exact hown'
        have hx' : Ext w1 w4 := (HX2.out.alloc _).grown hgrow (fun g hg => (World.ownsRow.lt HO.out g hg).1)
        have HO' := Lib.hid hO'; clear hO' hown' hgrow
        go_wp2_with fail
        go_roundw
        case rel => exact ⟨k + 1, by omega, by go_num, HT'.out, HO'.out, hx'⟩
        case measure => simp [intOf]; omega
      · have HU : Hid (unfF s z k = false) := by show _ = _; rw [HUF.out]; exact decide_eq_false (by unfold gapN; split <;> omega)
        have HO2 := Lib.hid (own_ext HO.out HXr2.out)
        go_wp2_with fail
        go_roundw
        case rel => exact ⟨k + 1, by omega, by go_num, HT'.out, by rw [unfTo_no HU.out, ← HLKE.out]; exact HO2.out, HX2.out⟩
        case measure => simp [intOf]; omega
    · obtain rfl : k = nK := by omega
      go_wp2_with fail
      go_ret2
      have hE0 : unfE s z = 0 := by rw [HUE.out]; exact HT.out
      refine ⟨_, by rw [hE0]; rfl, fun _ => ?_, fun h => absurd hE0 h, HXw.out⟩
      have h := HO.out
      unfold unfL
      rw [HLK.out, ← HLKE.out]
      exact own_base_le h HX1.out.size
end Go.Proofs.YtilkgocpkhionaaGreat
/- SeamUnfits returns true -/
namespace Go.Proofs.YtilkgocpkhionaaGreat
open Go.RowKit
set_option maxRecDepth 100000 in
set_option maxHeartbeats 1600000 in
theorem unfitsL_any (a : StyA) (s : Sty) (z : Int) (w : World) (hs : StyAt w a s) :
    Calls Tryz.prog 4 #[a.val, .int .i64 z] w fun e w' => e = .returned (.bool true) ∧ Ext w w' := by
  have HS := Lib.hid hs; clear hs
  have H1 := Lib.hid (fun W (h : Ext w W) => lt22_any a s W (HS.out.ext h))
  have H2 := Lib.hid (fun W (h : Ext w W) (hl : LtS s) => unfit_any a s z W (HS.out.ext h) (by have := hl.K; rw [HS.out.lK] at this; omega))
  have H3 := Lib.hid (fun W (h : Ext w W) (hl : LtS s) => runfit_any a s z W (HS.out.ext h) hl)
  obtain ⟨nm, AS, nS, cS, AM, nM, cM, AP, nP, cP, AU, nU, cU, AK, nK, cK, AO, nO, cO⟩ := a
  simp only [StyA.val] at H1 H2 H3 ⊢
  go_enter Tryz.func4, Tryz.ntmps4
  go_wp2_with fail
  refine (H1.out _ ((Ext.refl _).alloc _)).mono ?_
  rintro e w1 ⟨b, rfl, he1, hb⟩
  have HB1 : Hid (Blk 29 w1 w.heap.size [.string nm, .slice AS nS cS, .slice AM nM cM, .slice AP nP cP, .slice AU nU cU, .slice AK nK cK, .slice AO nO cO]) := (Blk.new' rfl).ext he1
  have HX1 := Lib.hid (((Ext.refl w).alloc _).trans he1)
  clear he1
  cases b
  · clear hb
    go_wp2_with fail
    refine (alive_any _).mono ?_
    rintro e w2 ⟨rfl, he2⟩
    go_wp2_with fail
    go_ret
    exact ⟨rfl, HX1.out.trans he2⟩
  have HLT := Lib.hid (hb rfl); clear hb
  have hK30 : (unfL s z).length ≤ 30 := Nat.le_trans (unfTo_len s z s.ss.length) HLT.out.K
  obtain ⟨c0, c1, c2, c3, c4, c5, c6⟩ := blk7 HB1.out
  go_wp2_with fail
  refine (H2.out _ HX1.out HLT.out).mono ?_
  rintro e w2 ⟨v2, rfl, hv2, hv2', he2⟩
  have HB2 := Lib.hid (HB1.out.ext he2); have HX2 := Lib.hid (HX1.out.trans he2)
  clear he2 c0 c1 c2 c3 c4 c5 c6
  obtain ⟨c0, c1, c2, c3, c4, c5, c6⟩ := blk7 HB2.out
  obtain ⟨x, hx⟩ : ∃ x, x = unfE s z := ⟨_, rfl⟩
  obtain ⟨L, hL⟩ : ∃ L, L = unfL s z := ⟨_, rfl⟩
  rw [← hL] at hK30 hv2
  rw [← hx] at hv2 hv2' ⊢
  have HXE := Lib.hid hx; have HLL := Lib.hid hL; clear hx hL
  have hself : (x == x) = true := by simp
  by_cases hz : x = 0
  · have hO2 := hv2 hz
    obtain ⟨n, hn⟩ : ∃ n, L.length = n := ⟨_, rfl⟩
    obtain ⟨A2, c2', hvf, hE2, _⟩ := OwnI.slice' (n := n) hO2 hn
    subst hvf
    rw [hn] at hK30
    have HN := Lib.hid hn
    have HE2 := Lib.hid hE2; have HZ := Lib.hid hz; clear hv2 hv2' hO2 hE2 hz hn
    go_wp2_with fail
    refine (H3.out _ HX2.out HLT.out).mono ?_
    rintro e w3 ⟨v3, rfl, hv3, hv3', he3⟩
    rw [← HXE.out] at hv3 hv3' ⊢
    have hO3 := hv3 HZ.out
    rw [← HLL.out] at hO3
    obtain ⟨A3, c3', hvf, hE3, _⟩ := OwnI.slice' (n := n) hO3 HN.out
    subst hvf
    have HE3 := Lib.hid hE3; have HX3 := Lib.hid (HX2.out.trans he3); have HE23 := Lib.hid (HE2.out.ext he3)
    clear hv3 hv3' hO3 hE3 he3 c0 c1 c2 c3 c4 c5 c6
    go_wp2_with fail
    refine (sameInts_eq A2 A3 n c2' c3' L _ HE23.out HE3.out HN.out (by omega)).mono ?_
    rintro e w4 ⟨rfl, he4⟩
    go_wp2_with fail
    refine (alive_any _).mono ?_
    rintro e w5 ⟨rfl, he5⟩
    go_wp2_with fail
    go_ret
    exact ⟨rfl, (HX3.out.trans he4).trans he5⟩
  · have hvf := hv2' hz
    subst hvf
    have HZ := Lib.hid hz; clear hv2 hv2' hz
    go_wp2_with fail
    refine (H3.out _ HX2.out HLT.out).mono ?_
    rintro e w3 ⟨v3, rfl, hv3, hv3', he3⟩
    rw [← HXE.out] at hv3 hv3' ⊢
    have hvf := hv3' HZ.out
    subst hvf
    have HX3 := Lib.hid (HX2.out.trans he3)
    clear hv3 hv3' he3 c0 c1 c2 c3 c4 c5 c6
    go_wp2_with fail
    refine (sameInts_eq none none 0 0 0 [] _ IntsAt.nil IntsAt.nil rfl (by omega)).mono ?_
    rintro e w4 ⟨rfl, he4⟩
    go_wp2_with fail
    refine (alive_any _).mono ?_
    rintro e w5 ⟨rfl, he5⟩
    go_wp2_with fail
    go_ret
    exact ⟨rfl, (HX3.out.trans he4).trans he5⟩
end Go.Proofs.YtilkgocpkhionaaGreat
namespace Go.Proofs.YtilkgocpkhionaaGreat
open Go.ChangeShapes Go.WideShapes Go.ChangeAt Go.RowKit Go.Deep Go.Joins
set_option maxRecDepth 100000 in
theorem seamUnfits_lifted (os : Os) (started : os.Started) (H : Type) (enc : TypeId × Value → H) :
    ReturnsInHanded {} Tryz.checked os 4 .any (Rows.seamUnfitsSpec.pre6 enc Tryz.prog Tryz.f4 Rows.seamUnfitsRow.domain false) (Rows.seamUnfitsSpec.post enc Tryz.prog Tryz.f4 false true false false) := by
  refine returnsInHanded_of_change (C := Tryz.checked) Tryz.own started (by kernel_rfl) Tryz.func4
    (ChangeSpec.witness6 (enc := enc) (C := Tryz.checked) false ⟨#[], #[.agg #[.string ⟨#[]⟩, .slice none 0 0, .slice none 0 0, .slice none 0 0, .slice none 0 0, .slice none 0 0, .slice none 0 0], .int .i64 0], []⟩ 8 (by kernel_rfl) (by kernel_rfl) (by kernel_rfl) (by kernel_rfl)) ?_
  intro W base args ds gs before hval0 hW hcnd _
  have hval : ∀ (j : Nat) t v, Tryz.f4.params[j]? = some t → args[j]? = some v → Value.okWide Tryz.prog W .any base t v := hval0
  have hW' := hW
  obtain ⟨p, q, hA0, hV, rfl, hfz, hnd⟩ := hW
  have hA : DataW.TrodAll enc Tryz.prog W 0 (fun _ => true) true Tryz.f4.params.toList args.toList ds p := hA0
  rw [Tryz.params4] at hA hval
  obtain ⟨v0, vs0, d0, ds0, p0, q0, hargs, rfl, rfl, h0, r0⟩ := trodAll_cons hA
  obtain ⟨v1, vs1, d1, ds1, p1, q1, rfl, rfl, rfl, h1, r1⟩ := trodAll_cons r0
  obtain ⟨rfl, rfl, rfl⟩ := trodAll_nil r1
  obtain rfl : args = #[v0, v1] := by cases args; simp_all
  obtain ⟨rfl, rfl⟩ := trodVars_none hV
  have k0 := h0
  have lt0 : ∀ x ∈ p0, x.block < W.heap.size := by obtain ⟨m, hm⟩ := k0; exact DataW.trod_lt m _ _ _ hm
  obtain ⟨a0, s0, hv0, hS0, wS0⟩ := style_open (hval 0 29 v0 rfl rfl) h0
  subst hv0
  have k1 := h1
  have lt1 : ∀ x ∈ p1, x.block < W.heap.size := by obtain ⟨m, hm⟩ := k1; exact DataW.trod_lt m _ _ _ hm
  obtain ⟨a1, hv1, wf1⟩ := int_open (hval 1 3 v1 rfl rfl) h1
  subst hv1
  clear hA0 hval0
  refine (unfitsL_any a0 s0 a1 W hS0).mono fun e W' ⟨he, bel⟩ => ?_
  subst he
  exact ⟨_, rfl, _, _, _, [], _, [], hW', trodAll_mk1 (shut_bool Tryz.underlying4 _), (trodAll_cons_mk (Below.trod Tryz.laidOut (by kernel_rfl) (of_decide_eq_true (by kernel_rfl)) k0 bel lt0) (trodAll_cons_mk (Below.trod Tryz.laidOut (by kernel_rfl) (of_decide_eq_true (by kernel_rfl)) k1 bel lt1) trodAll_mk0)), rfl, Below.frame bel _, fun h => by cases h⟩
theorem seamUnfits_holds : Rows.SeamUnfitsSaid :=
  OpenClaim.holds_of_wide 4 Tryz.f4 rfl rfl rfl rfl rfl rfl rfl ⟨rfl, rfl, rfl, rfl, rfl⟩ rfl rfl rfl rfl rfl (by kernel_rfl) Tryz.func4 (by kernel_rfl)
    (of_decide_eq_true (by kernel_rfl)) (by unfold Func.isWrapper; first | (rw [if_pos (by decide +kernel)]; kernel_rfl) | (rw [if_neg (by decide +kernel)]; exact ⟨rfl, rfl⟩))
    (fun os started H enc _ => seamUnfits_lifted os started H enc)
end Go.Proofs.YtilkgocpkhionaaGreat

