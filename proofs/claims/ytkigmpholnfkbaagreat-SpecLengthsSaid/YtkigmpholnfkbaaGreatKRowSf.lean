/- The law SpecLengths: for every input it returns true and leaves its arguments as they were. No conditions. -/
import Derived.Test.YtkigmpholnfkbaaGreatRows
import Derived.OpenShut
import Derived.Test.YtkigmpholnfkbaaGreatKLawSc
import Derived.Test.YtkigmpholnfkbaaGreatKOpenS
/- plain: the target of one edge (SpecLengths). No program in sight. -/
namespace Go.Proofs.YtkigmpholnfkbaaGreat
open Go.RowKit
def oneX (k e : Int) : PomX := ⟨⟨#[111, 110, 101]⟩, [k], [e], 0, 0⟩
theorem one_name : nameB ⟨#[111, 110, 101]⟩ = true := by decide +kernel
theorem oneX_ok {x : StyX} {k e : Int} (h : edgeB x.s k e = true) : PomOk x (oneX k e) :=
  ⟨one_name, rfl, by simp [oneX], by simp [oneX], fun j hj => by
    obtain rfl : j = 0 := by simpa [oneX] using hj
    exact h, Int.le_refl _, (show (0 : Int) ≤ 1073741824 by decide), Int.le_refl _, (show (0 : Int) ≤ 1073741824 by decide)⟩
theorem oneX_spc {x : StyX} {k e : Int} (hs : styE x = 0) (h : edgeB x.s k e = false) : spcE x [oneX k e] = 3 := by
  unfold spcE
  rw [if_neg (fun h => h hs), if_neg (by simp)]
  show firstE (pomE x [oneX k e]) (0 + 1) = 3
  have h1 : pomE x [oneX k e] 0 = 3 := by
    unfold pomE
    have e0 : gPm [oneX k e] 0 = oneX k e := rfl
    rw [e0, if_neg (by
      show ¬ (nameB ⟨#[111, 110, 101]⟩ = false ∨ _)
      rw [one_name]; simp [oneX]), if_neg (by simp)]
    rw [if_pos (by
      show (allB _ 0 && edgeB x.s k e) = false
      rw [h]; simp)]
  rw [firstE_at (n := 0 + 1) (Nat.lt_succ_self 0) rfl (by rw [h1]; decide), h1]
theorem oneX_1 {x : StyX} {k e z : Int} (hs : styE x ≠ 0) : targE x (oneX k e) z = styE x := by
  have h : spcE x [oneX k e] = styE x := by unfold spcE; rw [if_pos hs]
  unfold targE; rw [h, if_pos hs]
theorem oneX_2 {x : StyX} {k e z : Int} (hs : styE x = 0) (h : edgeB x.s k e = false ∨ z < 0 ∨ (x.sz.length : Int) ≤ z) : targE x (oneX k e) z = 3 ∧ targV x (oneX k e) z = 0 := by
  have e3 : targE x (oneX k e) z = 3 := by
    unfold targE
    cases hb : edgeB x.s k e
    · rw [oneX_spc hs hb, if_pos (by decide)]
    · have h0 : spcE x [oneX k e] = 0 := spcE_one.2 ⟨hs, oneX_ok hb⟩
      rw [h0, if_neg (by simp), if_pos (by rw [hb] at h; simpa using h)]
  refine ⟨e3, ?_⟩
  unfold targV; rw [e3, if_pos (by decide)]
theorem oneX_3 {x : StyX} {K E Z : Nat} (hs : styE x = 0) (hK : K < x.ps.length) (hE : E < (gPx x.ps K).p.es.length) (hZ : Z < x.sz.length) :
    targE x (oneX (K : Int) (E : Int)) (Z : Int) = gradedR (gPx x.ps K).p.es (gPx x.ps K).p.cs (gI x.ms Z) ∧
    targV x (oneX (K : Int) (E : Int)) (Z : Int) = if gradedR (gPx x.ps K).p.es (gPx x.ps K).p.cs (gI x.ms Z) ≠ 0 then 0 else (lengthN (gE (gradedE (gPx x.ps K).p.es (gPx x.ps K).p.cs (gI x.ms Z)) E).2 : Int) := by
  have hl : x.s.ps.length = x.ps.length := by simp [StyX.s]
  have hb : edgeB x.s (K : Int) (E : Int) = true := by
    unfold edgeB
    refine decide_eq_true ⟨by omega, by omega, by omega, ?_⟩
    rw [Int.toNat_natCast, show gPc x.s.ps K = (gPx x.ps K).p from gPc_x hK]; omega
  have h0 : spcE x [oneX (K : Int) (E : Int)] = 0 := spcE_one.2 ⟨hs, oneX_ok hb⟩
  have e1 : targE x (oneX (K : Int) (E : Int)) (Z : Int) = gradedR (gPx x.ps K).p.es (gPx x.ps K).p.cs (gI x.ms Z) := by
    unfold targE
    rw [h0, if_neg (by simp), if_neg (by omega), Int.toNat_natCast]
    show firstE (tgR x (oneX (K : Int) (E : Int)) (gI x.ms Z)) (0 + 1) = _
    have hr : tgR x (oneX (K : Int) (E : Int)) (gI x.ms Z) 0 = gradedR (gPx x.ps K).p.es (gPx x.ps K).p.cs (gI x.ms Z) := rfl
    by_cases hg : gradedR (gPx x.ps K).p.es (gPx x.ps K).p.cs (gI x.ms Z) = 0
    · rw [hg]; exact firstE_succ rfl (by rw [hr, hg])
    · rw [firstE_at (n := 0 + 1) (Nat.lt_succ_self 0) rfl (by rw [hr]; exact hg), hr]
  refine ⟨e1, ?_⟩
  unfold targV
  rw [e1, Int.toNat_natCast]
  split
  · rfl
  · show ((tgTo x (oneX (K : Int) (E : Int)) (gI x.ms Z) (0 + 1) : Nat) : Int) = _
    unfold tgTo tgTo
    simp only [Nat.zero_add]
    rfl
theorem one_long {es : List Edge} {cs : List Spot} {m : Int} (h : gradedR es cs m = 0) {E : Nat} (hE : E < es.length) : lcheck (gE (gradedE es cs m) E).2 = 0 ∧ 1000 ≤ lengthN (gE (gradedE es cs m) E).2 :=
  ⟨graded_lines h hE, length_1000 (graded_lines h hE)⟩
end Go.Proofs.YtkigmpholnfkbaaGreat
/- the law SpecLengths, walked -/
namespace Go.Proofs.YtkigmpholnfkbaaGreat
open Go.RowKit
set_option maxRecDepth 100000 in
set_option maxHeartbeats 6400000 in
theorem lengthsX_any (a : StyA) (x : StyX) (kk ed z : Int) (w : World) (hs : StyXAt w a x) :
    Calls Tryz.prog 8 #[a.val, .int .i64 kk, .int .i64 ed, .int .i64 z] w fun e w' => e = .returned (.bool true) ∧ Ext w w' := by
  have HSM := Lib.hid (fun W (h : Ext w W) => lt25_any a x W (hs.ext h))
  have HTA := Lib.hid (fun (hlt : LtX x) q p W (h : Ext w W) (hq : PomAt W q p) => targX_any a x q p z W (hs.ext h) hlt.n hlt.zz hq)
  have HCR := Lib.hid (fun (hlt : LtX x) W (h : Ext w W) => r25Check_any a x W (hs.ext h) hlt.n hlt.zz hlt.ll)
  have HCS := Lib.hid (fun (hlt : LtX x) W (h : Ext w W) => styCheck_any a x W (hs.ext h) hlt.n hlt.zz)
  have HS := Lib.hid hs
  clear hs
  obtain ⟨nm, AS, nS, cS, AM, nM, cM, AP, nP, cP, AU, nU, cU, AK, nK, cK, AO, nO, cO⟩ := a
  have HLS : Hid (x.sz.length = nS) := HS.out.lS
  have HLM : Hid (x.ms.length = nM) := HS.out.lM
  have HLP : Hid (x.ps.length = nP) := HS.out.lP
  have HMS := Lib.hid HS.out.M
  have HPS := Lib.hid HS.out.P
  have hbS : nS ≤ 9223372036854775807 := HS.out.bS
  have hbM : nM ≤ 9223372036854775807 := HS.out.bM
  have hbP : nP ≤ 9223372036854775807 := HS.out.bP
  clear HS
  simp only [StyA.val] at HSM HTA HCR HCS HMS HPS ⊢
  go_enter Tryz.func8, Tryz.ntmps8
  go_wp2_with fail
  refine (HSM.out _ ((Ext.refl _).alloc _)).mono ?_
  rintro e w1 ⟨b, rfl, he1, hb⟩
  have HB1 : Hid (Blk 29 w1 w.heap.size [.string nm, .slice AS nS cS, .slice AM nM cM, .slice AP nP cP, .slice AU nU cU, .slice AK nK cK, .slice AO nO cO]) := (Blk.new' rfl).ext he1
  have HX1 := Lib.hid (((Ext.refl w).alloc _).trans he1)
  have HB := Lib.hid hb
  clear he1 hb HSM
  cases b
  · go_wp2_with fail
    refine (awake_any _).mono ?_
    rintro e w2 ⟨rfl, he2⟩
    go_wp2_with fail
    go_ret
    exact ⟨rfl, HX1.out.trans he2⟩
  have hlt := HB.out rfl
  have HT := Lib.hid (HTA.out hlt); have HC := Lib.hid (HCR.out hlt); have HD := Lib.hid (HCS.out hlt)
  have HLL := Lib.hid hlt.ll
  clear HTA HCR HCS hlt HB
  go_upto_region 4 with fail
  refine wp_at fun W0 hW0 => ?_
  have HG1 : Hid (Blk 3 W0 w1.heap.size [.int .i64 kk]) := by show Blk _ _ _ _; rw [hW0]; exact ((Blk.new' rfl).ext ((Ext.refl _).alloc _)).ext ((Ext.refl _).alloc _)
  have HG2 : Hid (Blk 3 W0 (w1.heap.size + 1) [.int .i64 ed]) := by show Blk _ _ _ _; rw [hW0]; exact (Blk.new' (by simp)).ext ((Ext.refl _).alloc _)
  have HN0 : Hid (Blk 36 W0 (w1.heap.size + 1 + 1) [.string ⟨#[111, 110, 101]⟩, .slice (some ⟨w1.heap.size, 0, none⟩) 1 1, .slice (some ⟨w1.heap.size + 1, 0, none⟩) 1 1, .int .i64 0, .int .i64 0]) := by show Blk _ _ _ _; rw [hW0]; exact Blk.new' (by simp)
  have HX0 : Hid (Ext w1 W0) := by show Ext _ _; rw [hW0]; exact (((Ext.refl _).alloc _).alloc _).alloc _
  have HB0 := Lib.hid (HB1.out.ext HX0.out)
  have HPM : Hid (PomAt W0 ⟨⟨#[111, 110, 101]⟩, some ⟨w1.heap.size, 0, none⟩, 1, 1, some ⟨w1.heap.size + 1, 0, none⟩, 1, 1, 0, 0⟩ (oneX kk ed)) :=
    ⟨rfl, ints_blk HG1.out (Nat.le_of_ble_eq_true rfl), rfl, ints_blk HG2.out (Nat.le_of_ble_eq_true rfl), rfl, rfl, rfl, Nat.le_of_ble_eq_true rfl, Nat.le_of_ble_eq_true rfl⟩
  have HO1 := Lib.hid (@oneX_1 x kk ed z)
  have HO2 := Lib.hid (fun h => @oneX_2 x kk ed z h)
  have HO3 := Lib.hid (fun (K E Z : Nat) (h1 : kk = K) (h2 : ed = E) (h3 : z = Z) (hs : styE x = 0) (hK : K < x.ps.length) (hE : E < (gPx x.ps K).p.es.length) (hZ : Z < x.sz.length) => h1 ▸ h2 ▸ h3 ▸ @oneX_3 x K E Z hs hK hE hZ)
  have HT0 : Hid (∀ W, Ext W0 W → _) := Lib.hid (fun W (h : Ext W0 W) => HT.out ⟨⟨#[111, 110, 101]⟩, some ⟨w1.heap.size, 0, none⟩, 1, 1, some ⟨w1.heap.size + 1, 0, none⟩, 1, 1, 0, 0⟩ (oneX kk ed) W ((HX1.out.trans HX0.out).trans h) (HPM.out.ext h))
  simp only [PomA.val] at HT0
  obtain ⟨TE, hTE⟩ : ∃ y, y = targE x (oneX kk ed) z := ⟨_, rfl⟩
  obtain ⟨TV, hTV⟩ : ∃ y, y = targV x (oneX kk ed) z := ⟨_, rfl⟩
  rw [← hTE, ← hTV] at HT0 HO2 HO3
  rw [← hTE] at HO1
  clear hTE hTV hW0 HT HPM HG1 HG2
  have HMSZ := Lib.hid (@sty_ms x)
  obtain ⟨SE, hSE⟩ : ∃ y, y = styE x := ⟨_, rfl⟩
  rw [← hSE] at HC HD HO1 HO2 HO3 HMSZ
  clear hSE
  obtain ⟨pg, hpg⟩ : ∃ y, y = w1.heap.size + 1 + 1 := ⟨_, rfl⟩
  have HNG := HN0
  obtain ⟨a0, a1, a2, a3, a4⟩ := blk5 HN0.out
  obtain ⟨c0, c1, c2, c3, c4, c5, c6⟩ := blk7 HB0.out
  clear hpg HNG
  go_wp2_with fail
  refine (HT0.out _ (Ext.refl _)).mono ?_
  rintro e w2 ⟨rfl, he2⟩
  have HX2 := Lib.hid ((HX1.out.trans HX0.out).trans he2)
  have HB2 := Lib.hid (HB0.out.ext he2)
  clear a0 a1 a2 a3 a4 c0 c1 c2 c3 c4 c5 c6 he2 HT0 HB0 HN0
  obtain ⟨c0, c1, c2, c3, c4, c5, c6⟩ := blk7 HB2.out
  go_wp2_with fail
  refine (HC.out _ HX2.out).mono ?_
  rintro e w3 ⟨rfl, he3⟩
  have HX3 := Lib.hid (HX2.out.trans he3)
  have HB3 := Lib.hid (HB2.out.ext he3)
  clear c0 c1 c2 c3 c4 c5 c6 he3 HC HB2
  obtain ⟨c0, c1, c2, c3, c4, c5, c6⟩ := blk7 HB3.out
  by_cases hz : SE = 0
  rotate_left
  · have HR := HO1.out hz
    subst HR
    have hzb : (TE != 0) = true := by simp [hz]
    have hze : (TE == TE) = true := by simp
    clear hz HO1 HO2 HO3 HMSZ
    go_wp2_with fail
    refine (HD.out _ HX3.out).mono ?_
    rintro e w4 ⟨rfl, he4⟩
    have HX4 := Lib.hid (HX3.out.trans he4); clear he4
    go_wp2_with fail
    refine (awake_any _).mono ?_
    rintro e w5 ⟨rfl, he5⟩
    go_wp2_with fail
    go_ret
    exact ⟨rfl, HX4.out.trans he5⟩
  subst hz
  have HML : Hid (nM = nS) := by show _ = _; rw [← HLM.out, ← HLS.out]; exact HMSZ.out rfl
  have HO2 := Lib.hid (HO2.out rfl)
  clear HO1 HMSZ HD
  by_cases q0 : kk < 0
  · obtain ⟨rfl, rfl⟩ := HO2.out (Or.inl (edge_no (by omega)))
    clear HO2 HO3
    go_wp2_with fail
    refine (awake_any _).mono ?_
    rintro e w4 ⟨rfl, he4⟩
    go_wp2_with fail
    go_ret
    exact ⟨rfl, HX3.out.trans he4⟩
  by_cases q1 : (nP : Int) ≤ kk
  · obtain ⟨rfl, rfl⟩ := HO2.out (Or.inl (edge_no (by rw [sps_len, HLP.out]; omega)))
    clear HO2 HO3
    go_wp2_with fail
    refine (awake_any _).mono ?_
    rintro e w4 ⟨rfl, he4⟩
    go_wp2_with fail
    go_ret
    exact ⟨rfl, HX3.out.trans he4⟩
  by_cases q2 : ed < 0
  · obtain ⟨rfl, rfl⟩ := HO2.out (Or.inl (edge_no (by omega)))
    clear HO2 HO3
    go_wp2_with fail
    refine (awake_any _).mono ?_
    rintro e w4 ⟨rfl, he4⟩
    go_wp2_with fail
    go_ret
    exact ⟨rfl, HX3.out.trans he4⟩
  obtain ⟨PC, rfl⟩ := Int.eq_ofNat_of_zero_le (show 0 ≤ kk by omega)
  obtain ⟨ED, rfl⟩ := Int.eq_ofNat_of_zero_le (show 0 ≤ ed by omega)
  have hPC : PC < nP := by omega
  have HPCL : Hid (PC < x.ps.length) := by show _ < _; rw [HLP.out]; exact hPC
  obtain ⟨bz, oz, qa, hAZ, hq, hcq, hzz1, hzz2⟩ := (HPS.out.ext HX3.out) PC HPCL.out
  subst hAZ
  clear hzz1 hzz2
  have HO3 := Lib.hid (fun Z hz => HO3.out PC ED Z rfl rfl hz rfl HPCL.out)
  obtain ⟨es, hes⟩ : ∃ es, es = (gPx x.ps PC).p.es := ⟨_, rfl⟩
  obtain ⟨cs, hcs⟩ : ∃ cs, cs = (gPx x.ps PC).p.cs := ⟨_, rfl⟩
  have HGR := Lib.hid (fun W m (h : Ext w3 W) => graded_any qa.nm qa.AE qa.AN qa.AC qa.AW qa.nE qa.cE qa.nN qa.cN qa.nC qa.cC qa.nW qa.cW qa.gr m qa.mt es cs W (by rw [hes]; exact hq.e.ext h) (by rw [hes]; exact hq.le) hq.ce hq.ce' (by rw [hcs]; exact hq.c.ext h) (by rw [hcs]; exact hq.lc) hq.nc)
  have HLZ : Hid (es.length = qa.nE) := by show _ = _; rw [hes]; exact hq.le
  have HES := Lib.hid hes
  rw [← hes, ← hcs] at HO3
  clear hq hes hcs
  obtain ⟨znm, zAE, znE, zcE, zgr, zAN, znN, zcN, zAC, znC, zcC, zAW, znW, zcW, zmt⟩ := qa
  obtain ⟨d0, d1, d2, d3, d4, d5, d6⟩ := hcq
  simp only at d0 d1 d2 d3 d4 d5 d6 HGR HLZ
  by_cases q3 : (znE : Int) ≤ (ED : Int)
  · obtain ⟨rfl, rfl⟩ := HO2.out (Or.inl (edge_no (by rw [Int.toNat_natCast, sps_get HPCL.out, ← HES.out, HLZ.out]; omega)))
    clear HO2 HO3
    go_wp2_with fail
    refine (awake_any _).mono ?_
    rintro e w4 ⟨rfl, he4⟩
    go_wp2_with fail
    go_ret
    exact ⟨rfl, HX3.out.trans he4⟩
  by_cases q4 : z < 0
  · obtain ⟨rfl, rfl⟩ := HO2.out (Or.inr (Or.inl q4))
    clear HO2 HO3
    go_wp2_with fail
    refine (awake_any _).mono ?_
    rintro e w4 ⟨rfl, he4⟩
    go_wp2_with fail
    go_ret
    exact ⟨rfl, HX3.out.trans he4⟩
  by_cases q5 : (nS : Int) ≤ z
  · obtain ⟨rfl, rfl⟩ := HO2.out (Or.inr (Or.inr (by rw [HLS.out]; exact q5)))
    clear HO2 HO3
    go_wp2_with fail
    refine (awake_any _).mono ?_
    rintro e w4 ⟨rfl, he4⟩
    go_wp2_with fail
    go_ret
    exact ⟨rfl, HX3.out.trans he4⟩
  obtain ⟨Z, rfl⟩ := Int.eq_ofNat_of_zero_le (show 0 ≤ z by omega)
  have hZM : Z < nM := by have := HML.out; omega
  have hED : ED < znE := by omega
  have HR := Lib.hid (HO3.out Z rfl (by rw [HLZ.out]; exact hED) (by rw [HLS.out]; omega))
  clear HO2 HO3
  obtain ⟨bm, om, hAM, m0⟩ := (HMS.out.ext HX3.out).g (k := Z) (by rw [HLM.out]; exact hZM)
  subst hAM
  obtain ⟨m, hm⟩ : ∃ m, m = gI x.ms Z := ⟨_, rfl⟩
  rw [← hm] at m0 HR
  clear hm
  have HGZ := Lib.hid (fun W (h : Ext w3 W) => HGR.out W m h)
  clear HGR
  have keep : ∀ W1 : World, Ext w3 W1 → (Ext w3 W1 ∧ W1.cell? ⟨w.heap.size, 2, none⟩ = some (.slice (some ⟨bm, om, none⟩) nM cM) ∧ W1.cell? ⟨w.heap.size, 3, none⟩ = some (.slice (some ⟨bz, oz, none⟩) nP cP) ∧ W1.cell? ⟨bm, om + Z, none⟩ = some (.int .i64 m) ∧ W1.cell? ⟨bz, oz + PC * 7, none⟩ = some (.string znm) ∧ W1.cell? ⟨bz, oz + PC * 7 + 1, none⟩ = some (.slice zAE znE zcE) ∧ W1.cell? ⟨bz, oz + PC * 7 + 2, none⟩ = some (.int .i64 zgr) ∧ W1.cell? ⟨bz, oz + PC * 7 + 3, none⟩ = some (.slice zAN znN zcN) ∧ W1.cell? ⟨bz, oz + PC * 7 + 4, none⟩ = some (.slice zAC znC zcC) ∧ W1.cell? ⟨bz, oz + PC * 7 + 5, none⟩ = some (.slice zAW znW zcW) ∧ W1.cell? ⟨bz, oz + PC * 7 + 6, none⟩ = some (.bool zmt)) := fun W1 hx => ⟨hx, hx.cell c2, hx.cell c3, hx.cell m0, hx.cell d0, hx.cell d1, hx.cell d2, hx.cell d3, hx.cell d4, hx.cell d5, hx.cell d6⟩
  have KEEP := Lib.hid keep; clear keep
  have getw : ∀ W : World, (Ext w3 W ∧ W.cell? ⟨w.heap.size, 2, none⟩ = some (.slice (some ⟨bm, om, none⟩) nM cM) ∧ W.cell? ⟨w.heap.size, 3, none⟩ = some (.slice (some ⟨bz, oz, none⟩) nP cP) ∧ W.cell? ⟨bm, om + Z, none⟩ = some (.int .i64 m) ∧ W.cell? ⟨bz, oz + PC * 7, none⟩ = some (.string znm) ∧ W.cell? ⟨bz, oz + PC * 7 + 1, none⟩ = some (.slice zAE znE zcE) ∧ W.cell? ⟨bz, oz + PC * 7 + 2, none⟩ = some (.int .i64 zgr) ∧ W.cell? ⟨bz, oz + PC * 7 + 3, none⟩ = some (.slice zAN znN zcN) ∧ W.cell? ⟨bz, oz + PC * 7 + 4, none⟩ = some (.slice zAC znC zcC) ∧ W.cell? ⟨bz, oz + PC * 7 + 5, none⟩ = some (.slice zAW znW zcW) ∧ W.cell? ⟨bz, oz + PC * 7 + 6, none⟩ = some (.bool zmt)) → Ext w3 W := fun W h => h.1
  have GETW := Lib.hid getw; clear getw
  go_wp2_with fail
  clear c0 c1 c2 c3 c4 c5 c6 m0 d0 d1 d2 d3 d4 d5 d6
  go_region_held3 (fun W => Ext w3 W ∧ W.cell? ⟨w.heap.size, 2, none⟩ = some (.slice (some ⟨bm, om, none⟩) nM cM) ∧ W.cell? ⟨w.heap.size, 3, none⟩ = some (.slice (some ⟨bz, oz, none⟩) nP cP) ∧ W.cell? ⟨bm, om + Z, none⟩ = some (.int .i64 m) ∧ W.cell? ⟨bz, oz + PC * 7, none⟩ = some (.string znm) ∧ W.cell? ⟨bz, oz + PC * 7 + 1, none⟩ = some (.slice zAE znE zcE) ∧ W.cell? ⟨bz, oz + PC * 7 + 2, none⟩ = some (.int .i64 zgr) ∧ W.cell? ⟨bz, oz + PC * 7 + 3, none⟩ = some (.slice zAN znN zcN) ∧ W.cell? ⟨bz, oz + PC * 7 + 4, none⟩ = some (.slice zAC znC zcC) ∧ W.cell? ⟨bz, oz + PC * 7 + 5, none⟩ = some (.slice zAW znW zcW) ∧ W.cell? ⟨bz, oz + PC * 7 + 6, none⟩ = some (.bool zmt))
    (first | (with_reducible assumption) | (with_reducible exact KEEP.out _ (Ext.drew (Ext.refl _))) | (with_reducible exact KEEP.out _ hxr) | fail)
    (first
      | (go_at_call 25; refine (HGZ.out _ (GETW.out _ ‹_›)).mono ?_; rintro e w4 ⟨v4, rfl, hv, hv', he4⟩; have hxr := (GETW.out _ ‹_›).trans he4)
      | fail)
  have HX4 := Lib.hid (HX3.out.trans hxr)
  clear he4 hxr HGZ KEEP GETW
  obtain ⟨hr1, hr2⟩ := HR.out
  by_cases hz : gradedR es cs m = 0
  rotate_left
  · have hvf := hv' hz
    subst hvf
    rw [if_pos hz] at hr2
    rw [← hr1] at hz ⊢
    subst hr2
    have hzb : (TE != 0) = true := by simp [hz]
    have hze : (TE == TE) = true := by simp
    clear hv hv' hz hr1 HR
    go_wp2_with fail
    refine (awake_any _).mono ?_
    rintro e w5 ⟨rfl, he5⟩
    go_wp2_with fail
    go_ret
    exact ⟨rfl, HX4.out.trans he5⟩
  have hO := hv hz
  rw [if_neg (fun h => h hz)] at hr2
  rw [hz] at hr1 ⊢
  subst hr1
  obtain ⟨hc0, hl0⟩ := one_long (cs := cs) (m := m) hz (show ED < es.length by rw [HLZ.out]; exact hED)
  obtain ⟨A1, c1', hvf, hE1, _, _⟩ := OwnE.slice' (n := znE) hO (by rw [gradedE_len]; exact HLZ.out)
  subst hvf
  obtain ⟨bg, og, LG, cG, hA1, _, g1, hSG, _, _⟩ := hE1.g (k := ED) (by rw [gradedE_len, HLZ.out]; exact hED)
  subst hA1
  obtain ⟨lg, hlg⟩ : ∃ lg, lg = (gE (gradedE es cs m) ED).2 := ⟨_, rfl⟩
  rw [← hlg] at g1 hSG hc0 hl0 hr2
  obtain ⟨ng, hng⟩ : ∃ ng, ng = lg.length := ⟨_, rfl⟩
  rw [← hng] at g1
  have HNG := Lib.hid hng; have HSG := Lib.hid hSG; have HC0 := Lib.hid hc0
  have HLX := Lib.hid (fun W (h : Ext w4 W) => length_any LG ng cG lg W (hSG.ext h) hng.symm)
  rw [hc0] at HLX
  obtain ⟨LN, hLN⟩ : ∃ LN, LN = lengthN lg := ⟨_, rfl⟩
  rw [← hLN] at HLX hl0 hr2
  subst hr2
  clear hv hv' hz hO hE1 hlg hng hSG hc0 hLN HR
  have hln : ¬ znE ≤ ED := by omega
  have hll : ((LN : Int) == (LN : Int)) = true := by simp
  have hl1 : decide ((1000 : Int) ≤ (LN : Int)) = true := decide_eq_true (by omega)
  go_wp2_with fail
  refine (HLX.out _ (Ext.refl _)).mono ?_
  rintro e w5 ⟨rfl, he5⟩
  have HX5 := Lib.hid (HX4.out.trans he5)
  clear he5 g1
  go_wp2_with fail
  refine (awake_any _).mono ?_
  rintro e w6 ⟨rfl, he6⟩
  go_wp2_with fail
  go_ret
  exact ⟨rfl, HX5.out.trans he6⟩
end Go.Proofs.YtkigmpholnfkbaaGreat
/- the arguments opened: a style as a whole -/
namespace Go.Proofs.YtkigmpholnfkbaaGreat
open Go.ChangeShapes Go.WideShapes Go.ChangeAt Go.RowKit Go.Deep Go.Joins
section
variable {H : Type} {enc : TypeId × Value → H} {w : World} {base : Nat} {spare : Nat → Bool} {held : Bool}
set_option maxRecDepth 100000 in
theorem strings_open {n : Nat} {cs : List Value} {x : DataW H × List MemPlace} (h : DataW.trod enc Tryz.prog w base spare held n 22 cs = some x) : ∃ A len c l, cs = [.slice A len c] ∧ StrsAt w A l ∧ l.length = len ∧ len ≤ c ∧ c ≤ 9223372036854775807 := by
  rcases open_slice1 Tryz.underlying22 (by kernel_rfl) h with ⟨rfl, _⟩ | ⟨a, len, cap, m, k, V, D, Pl, rfl, hb, hl, hm, hmm, _, hx⟩
  · exact ⟨none, 0, 0, [], rfl, fun _ hk => absurd hk (Nat.not_lt_zero _), rfl, Nat.le_refl _, by omega⟩
  · have hlm : len ≤ m := by rw [hmm]; split <;> omega
    have key : ∀ i, i < len → ∃ s : ByteArray, w.cell? (a.add i) = some (.string s) := fun i hi => by
      obtain ⟨hc, ht'⟩ := hx i (by omega)
      obtain ⟨s, es, _, _⟩ := DataW.trod_string Tryz.underlying9 ht'
      simp at es
      exact ⟨s, by rw [hc, es]⟩
    obtain ⟨f, hf⟩ := choose_lt key
    refine ⟨some a, len, cap, (List.range len).map f, rfl, fun k' hk => ?_, by simp, hl, by unfold maxLen at hm; omega⟩
    simp at hk
    have c0 := hf k' hk
    obtain ⟨b, off, rfl⟩ := plain_of_cell (hf 0 (by omega))
    rw [addr_add] at c0
    exact ⟨b, off, rfl, by rw [c0, gB_eq (by simpa using hk)]; simp⟩
set_option maxRecDepth 100000 in
theorem use_trod {n : Nat} {cs : List Value} {x : DataW H × List MemPlace} (h : DataW.trod enc Tryz.prog w base spare held n 78 cs = some x) : ∃ s : UsX, cs = [.int .i64 s.pc, .int .i64 s.ct, .bool s.pr] := by
  obtain ⟨xs, m, _, _, hlen, hl, hg⟩ := DataW.trod_struct Tryz.underlying78 h
  rw [show Tryz.prog.cellsOf 78 = 3 from by kernel_rfl] at hlen
  match cs, hlen with
  | [c0, c1, c2], _ =>
    have g0 : DataW.trod enc Tryz.prog w base spare held m 3 (([c0, c1, c2].drop 0).take (Tryz.prog.cellsOf 3)) = xs[0]? := hg 0 _ rfl
    have g1 : DataW.trod enc Tryz.prog w base spare held m 3 (([c0, c1, c2].drop 1).take (Tryz.prog.cellsOf 3)) = xs[1]? := hg 1 _ rfl
    have g2 : DataW.trod enc Tryz.prog w base spare held m 4 (([c0, c1, c2].drop 2).take (Tryz.prog.cellsOf 4)) = xs[2]? := hg 2 _ rfl
    rw [show Tryz.prog.cellsOf 3 = 1 from by kernel_rfl] at g0 g1
    rw [show Tryz.prog.cellsOf 4 = 1 from by kernel_rfl] at g2
    match xs, hl with
    | [y0, y1, y2], _ =>
      simp at g0 g1 g2
      obtain ⟨pc, e0, _, _⟩ := DataW.trod_int Tryz.underlying3 g0
      obtain ⟨ct, e1, _, _⟩ := DataW.trod_int Tryz.underlying3 g1
      obtain ⟨pr, e2, _⟩ := DataW.trod_bool Tryz.underlying4 g2
      simp at e0 e1 e2
      subst e0 e1 e2
      exact ⟨⟨pc, ct, pr⟩, rfl⟩
set_option maxRecDepth 100000 in
theorem uses_open {n : Nat} {cs : List Value} {x : DataW H × List MemPlace} (h : DataW.trod enc Tryz.prog w base spare held n 25 cs = some x) : ∃ A len c l, cs = [.slice A len c] ∧ UsesAt w A l ∧ l.length = len ∧ len ≤ c ∧ c ≤ 9223372036854775807 := by
  rcases open_slice Tryz.underlying25 h with ⟨rfl, _⟩ | ⟨a, len, cap, m, k, D, Pl, rfl, hb, hl, hm, hmm, _, hx⟩
  · exact ⟨none, 0, 0, [], rfl, fun _ hk => absurd hk (Nat.not_lt_zero _), rfl, Nat.le_refl _, by omega⟩
  · rw [show Tryz.prog.cellsOf 78 = 3 from by kernel_rfl] at hx
    have hlm : len ≤ m := by rw [hmm]; split <;> omega
    have key : ∀ i, i < len → ∃ s : UsX, (∀ j u, [Value.int .i64 s.pc, .int .i64 s.ct, .bool s.pr][j]? = some u → w.cell? (a.add (i * 3 + j)) = some u) := fun i hi => by
      obtain ⟨cs', hc, ht'⟩ := hx i (by omega)
      obtain ⟨s, rfl⟩ := use_trod ht'
      obtain ⟨_, hlen, hat⟩ := World.cells?_some hc
      refine ⟨s, fun j u hu => ?_⟩
      have hj : j < 3 := by have := (List.getElem?_eq_some_iff.1 hu).1; simpa using this
      have := hat j hj
      rw [add_add] at this
      rw [this, hu]
    obtain ⟨f, hf⟩ := choose_lt key
    refine ⟨some a, len, cap, (List.range len).map f, rfl, fun k' hk => ?_, by simp, hl, by unfold maxLen at hm; omega⟩
    simp at hk
    have hc := hf k' hk
    obtain ⟨b, off, rfl⟩ := plain_of_cell (by simpa using hf 0 (by omega) 0 _ rfl)
    refine ⟨b, off, rfl, ?_⟩
    have hc' : ∀ j u, [Value.int .i64 (f k').pc, .int .i64 (f k').ct, .bool (f k').pr][j]? = some u → w.cell? ⟨b, off + k' * 3 + j, none⟩ = some u := fun j u hu => by
      have := hc j u hu
      rwa [addr_add, ← Nat.add_assoc] at this
    rw [show gU ((List.range len).map f) k' = f k' by unfold gU; simp [hk]]
    exact ⟨hc' 0 _ rfl, hc' 1 _ rfl, hc' 2 _ rfl⟩
set_option maxRecDepth 100000 in
theorem piecesX_open {n : Nat} {cs : List Value} {x : DataW H × List MemPlace} (h : DataW.trod enc Tryz.prog w base spare held n 24 cs = some x) : ∃ A len c l, cs = [.slice A len c] ∧ PiecesX w A l ∧ l.length = len ∧ len ≤ c ∧ c ≤ 9223372036854775807 ∧ ∀ k, k < l.length → WfP (gPx l k).p := by
  rcases open_slice Tryz.underlying24 h with ⟨rfl, _⟩ | ⟨a, len, cap, m, k, D, Pl, rfl, hb, hl, hm, hmm, _, hx⟩
  · exact ⟨none, 0, 0, [], rfl, fun _ hk => absurd hk (Nat.not_lt_zero _), rfl, Nat.le_refl _, by omega, fun _ hk => absurd hk (Nat.not_lt_zero _)⟩
  · rw [show Tryz.prog.cellsOf 52 = 7 from by kernel_rfl] at hx
    have hlm : len ≤ m := by rw [hmm]; split <;> omega
    have key : ∀ i, i < len → ∃ X : PcX, ∃ q : PcA, (∀ j u, (PcA.cells q)[j]? = some u → w.cell? (a.add (i * 7 + j)) = some u) ∧ PcAt w q X.p ∧ WfP X.p ∧ q.nm = X.nm ∧ q.gr = X.gr := fun i hi => by
      obtain ⟨cs', hc, ht'⟩ := hx i (by omega)
      obtain ⟨q, p, rfl, hs, hw⟩ := piece_trodW ht'
      obtain ⟨_, hlen, hat⟩ := World.cells?_some hc
      refine ⟨⟨q.nm, q.gr, p⟩, q, fun j u hu => ?_, hs, hw, rfl, rfl⟩
      have hj : j < 7 := by have := (List.getElem?_eq_some_iff.1 hu).1; simpa using this
      have := hat j hj
      rw [add_add] at this
      rw [this, hu]
    obtain ⟨f, hf⟩ := choose_lt key
    refine ⟨some a, len, cap, (List.range len).map f, rfl, fun k' hk => ?_, by simp, hl, by unfold maxLen at hm; omega, fun k' hk => by
      simp at hk
      obtain ⟨_, _, _, hw, _⟩ := hf k' hk
      rw [gPx_eq (by simpa using hk)]; simpa using hw⟩
    simp at hk
    obtain ⟨q, hc, hs, _, h1, h2⟩ := hf k' hk
    obtain ⟨q0, z0, _⟩ := hf 0 (by omega)
    obtain ⟨b, off, rfl⟩ := plain_of_cell (by simpa using z0 0 _ rfl)
    have e : gPx ((List.range len).map f) k' = f k' := by rw [gPx_eq (by simpa using hk)]; simp
    refine ⟨b, off, q, rfl, by rw [e]; exact hs, ?_, by rw [e]; exact h1, by rw [e]; exact h2⟩
    have hc' : ∀ j u, (PcA.cells q)[j]? = some u → w.cell? ⟨b, off + k' * 7 + j, none⟩ = some u := fun j u hu => by
      have := hc j u hu
      rwa [addr_add, ← Nat.add_assoc] at this
    exact ⟨hc' 0 _ rfl, hc' 1 _ rfl, hc' 2 _ rfl, hc' 3 _ rfl, hc' 4 _ rfl, hc' 5 _ rfl, hc' 6 _ rfl⟩
theorem slice_trod_bd {t e : TypeId} {n : Nat} {cs : List Value} {x : DataW H × List MemPlace} (ht : Tryz.prog.underlying t = some (.slice e)) (h : DataW.trod enc Tryz.prog w base spare held n t cs = some x) : ∃ A len c, cs = [.slice A len c] ∧ len ≤ 9223372036854775807 := by
  rcases open_slice ht h with ⟨rfl, _⟩ | ⟨a, len, cap, m, k, D, Pl, rfl, _, hl, hm, _⟩
  · exact ⟨none, 0, 0, rfl, by omega⟩
  · exact ⟨some a, len, cap, rfl, by unfold maxLen at hm; omega⟩
set_option maxRecDepth 100000 in
theorem style_openX {r : Reach} {b0 : Nat} {v : Value} {d : DataW H} {p : List MemPlace} (hv : Value.okWide Tryz.prog w r b0 29 v) (h : DataW.Trod enc Tryz.prog w base spare held 29 v d p) :
    ∃ a x, v = StyA.val a ∧ StyXAt w a x ∧ ∀ k, k < x.ps.length → WfP (gPx x.ps k).p := by
  obtain ⟨cs, rfl, hsz⟩ := okWide_struct Tryz.underlying29 hv
  obtain ⟨l⟩ := cs
  have hC : Tryz.prog.cellsOf 29 = 7 := by kernel_rfl
  match l, hsz.trans hC with
  | [c0, c1, c2, c3, c4, c5, c6], _ =>
    obtain ⟨fuel, hf⟩ := h
    obtain ⟨xs, n, _, hx, _, hlen, hg⟩ := DataW.trod_struct Tryz.underlying29 hf
    have g0 : DataW.trod enc Tryz.prog w base spare held n 9 (([c0, c1, c2, c3, c4, c5, c6].drop 0).take (Tryz.prog.cellsOf 9)) = xs[0]? := hg 0 _ rfl
    have g1 : DataW.trod enc Tryz.prog w base spare held n 22 (([c0, c1, c2, c3, c4, c5, c6].drop 1).take (Tryz.prog.cellsOf 22)) = xs[1]? := hg 1 _ rfl
    have g2 : DataW.trod enc Tryz.prog w base spare held n 23 (([c0, c1, c2, c3, c4, c5, c6].drop 2).take (Tryz.prog.cellsOf 23)) = xs[2]? := hg 2 _ rfl
    have g3 : DataW.trod enc Tryz.prog w base spare held n 24 (([c0, c1, c2, c3, c4, c5, c6].drop 3).take (Tryz.prog.cellsOf 24)) = xs[3]? := hg 3 _ rfl
    have g4 : DataW.trod enc Tryz.prog w base spare held n 25 (([c0, c1, c2, c3, c4, c5, c6].drop 4).take (Tryz.prog.cellsOf 25)) = xs[4]? := hg 4 _ rfl
    have g5 : DataW.trod enc Tryz.prog w base spare held n 26 (([c0, c1, c2, c3, c4, c5, c6].drop 5).take (Tryz.prog.cellsOf 26)) = xs[5]? := hg 5 _ rfl
    have g6 : DataW.trod enc Tryz.prog w base spare held n 27 (([c0, c1, c2, c3, c4, c5, c6].drop 6).take (Tryz.prog.cellsOf 27)) = xs[6]? := hg 6 _ rfl
    rw [show Tryz.prog.cellsOf 9 = 1 from by kernel_rfl] at g0
    rw [show Tryz.prog.cellsOf 22 = 1 from by kernel_rfl] at g1
    rw [show Tryz.prog.cellsOf 23 = 1 from by kernel_rfl] at g2
    rw [show Tryz.prog.cellsOf 24 = 1 from by kernel_rfl] at g3
    rw [show Tryz.prog.cellsOf 25 = 1 from by kernel_rfl] at g4
    rw [show Tryz.prog.cellsOf 26 = 1 from by kernel_rfl] at g5
    rw [show Tryz.prog.cellsOf 27 = 1 from by kernel_rfl] at g6
    match xs, hlen with
    | [y0, y1, y2, y3, y4, y5, y6], _ =>
      simp at g0 g1 g2 g3 g4 g5 g6
      obtain ⟨nm, e0, _, _⟩ := DataW.trod_string Tryz.underlying9 g0
      obtain ⟨AS, nS, cS, sz, e1, hS, lS, hs1, hs2⟩ := strings_open g1
      obtain ⟨AM, nM, cM, ms, e2, hM, lM, hm1, hm2⟩ := ints_open' g2
      obtain ⟨AP, nP, cP, ps, e3, hP, lP, hp1, hp2, hwP⟩ := piecesX_open g3
      obtain ⟨AU, nU, cU, us, e4, hU, lU, hu1, hu2⟩ := uses_open g4
      obtain ⟨AK, nK, cK, ss, e5, hK, lK, hk1, hk2⟩ := seams_open g5
      obtain ⟨AO, nO, cO, e6, ho⟩ := slice_trod_bd Tryz.underlying27 g6
      simp at e0 e1 e2 e3 e4 e5 e6
      subst e0 e1 e2 e3 e4 e5 e6
      exact ⟨⟨nm, AS, nS, cS, AM, nM, cM, AP, nP, cP, AU, nU, cU, AK, nK, cK, AO, nO, cO⟩, ⟨nm, sz, ms, ps, us, ss, nO⟩, rfl, ⟨rfl, hS, hM, hP, hU, hK, lS, lM, lP, lU, lK, rfl, by simp only; omega, by simp only; omega, by simp only; omega, by simp only; omega, by simp only; omega, ho, hp1, hs1⟩, hwP⟩
end
end Go.Proofs.YtkigmpholnfkbaaGreat
namespace Go.Proofs.YtkigmpholnfkbaaGreat
open Go.ChangeShapes Go.WideShapes Go.ChangeAt Go.RowKit Go.Deep Go.Joins
set_option maxRecDepth 100000 in
theorem specLengths_lifted (os : Os) (started : os.Started) (H : Type) (enc : TypeId × Value → H) :
    ReturnsInHanded {} Tryz.checked os 8 .any (Rows.specLengthsSpec.pre6 enc Tryz.prog Tryz.f8 Rows.specLengthsRow.domain false) (Rows.specLengthsSpec.post enc Tryz.prog Tryz.f8 false true false false) := by
  refine returnsInHanded_of_change (C := Tryz.checked) Tryz.own started (by kernel_rfl) Tryz.func8
    (ChangeSpec.witness6 (enc := enc) (C := Tryz.checked) false ⟨#[], #[.agg #[.string ⟨#[]⟩, .slice none 0 0, .slice none 0 0, .slice none 0 0, .slice none 0 0, .slice none 0 0, .slice none 0 0], .int .i64 0, .int .i64 0, .int .i64 0], []⟩ 8 (by kernel_rfl) (by kernel_rfl) (by kernel_rfl) (by kernel_rfl)) ?_
  intro W base args ds gs before hval0 hW hcnd _
  have hval : ∀ (j : Nat) t v, Tryz.f8.params[j]? = some t → args[j]? = some v → Value.okWide Tryz.prog W .any base t v := hval0
  have hW' := hW
  obtain ⟨p, q, hA0, hV, rfl, hfz, hnd⟩ := hW
  have hA : DataW.TrodAll enc Tryz.prog W 0 (fun _ => true) true Tryz.f8.params.toList args.toList ds p := hA0
  rw [Tryz.params8] at hA hval
  obtain ⟨v0, vs0, d0, ds0, p0, q0, hargs, rfl, rfl, h0, r0⟩ := trodAll_cons hA
  obtain ⟨v1, vs1, d1, ds1, p1, q1, rfl, rfl, rfl, h1, r1⟩ := trodAll_cons r0
  obtain ⟨v2, vs2, d2, ds2, p2, q2, rfl, rfl, rfl, h2, r2⟩ := trodAll_cons r1
  obtain ⟨v3, vs3, d3, ds3, p3, q3, rfl, rfl, rfl, h3, r3⟩ := trodAll_cons r2
  obtain ⟨rfl, rfl, rfl⟩ := trodAll_nil r3
  obtain rfl : args = #[v0, v1, v2, v3] := by cases args; simp_all
  obtain ⟨rfl, rfl⟩ := trodVars_none hV
  have k0 := h0
  have lt0 : ∀ x ∈ p0, x.block < W.heap.size := by obtain ⟨m, hm⟩ := k0; exact DataW.trod_lt m _ _ _ hm
  obtain ⟨a0, s0, hv0, hS0, wS0⟩ := style_openX (hval 0 29 v0 rfl rfl) h0
  subst hv0
  have k1 := h1
  have lt1 : ∀ x ∈ p1, x.block < W.heap.size := by obtain ⟨m, hm⟩ := k1; exact DataW.trod_lt m _ _ _ hm
  obtain ⟨a1, hv1, wf1⟩ := int_open (hval 1 3 v1 rfl rfl) h1
  subst hv1
  have k2 := h2
  have lt2 : ∀ x ∈ p2, x.block < W.heap.size := by obtain ⟨m, hm⟩ := k2; exact DataW.trod_lt m _ _ _ hm
  obtain ⟨a2, hv2, wf2⟩ := int_open (hval 2 3 v2 rfl rfl) h2
  subst hv2
  have k3 := h3
  have lt3 : ∀ x ∈ p3, x.block < W.heap.size := by obtain ⟨m, hm⟩ := k3; exact DataW.trod_lt m _ _ _ hm
  obtain ⟨a3, hv3, wf3⟩ := int_open (hval 3 3 v3 rfl rfl) h3
  subst hv3
  clear hA0 hval0
  refine (lengthsX_any a0 s0 a1 a2 a3 W hS0).mono fun e W' ⟨he, bel⟩ => ?_
  subst he
  exact ⟨_, rfl, _, _, _, [], _, [], hW', trodAll_mk1 (shut_bool Tryz.underlying4 _), (trodAll_cons_mk (Below.trod Tryz.laidOut (by kernel_rfl) (of_decide_eq_true (by kernel_rfl)) k0 bel lt0) (trodAll_cons_mk (Below.trod Tryz.laidOut (by kernel_rfl) (of_decide_eq_true (by kernel_rfl)) k1 bel lt1) (trodAll_cons_mk (Below.trod Tryz.laidOut (by kernel_rfl) (of_decide_eq_true (by kernel_rfl)) k2 bel lt2) (trodAll_cons_mk (Below.trod Tryz.laidOut (by kernel_rfl) (of_decide_eq_true (by kernel_rfl)) k3 bel lt3) trodAll_mk0)))), rfl, Below.frame bel _, fun h => by cases h⟩
theorem specLengths_holds : Rows.SpecLengthsSaid :=
  OpenClaim.holds_of_wide 8 Tryz.f8 rfl rfl rfl rfl rfl rfl rfl ⟨rfl, rfl, rfl, rfl, rfl⟩ rfl rfl rfl rfl rfl (by kernel_rfl) Tryz.func8 (by kernel_rfl)
    (of_decide_eq_true (by kernel_rfl)) (by unfold Func.isWrapper; first | (rw [if_pos (by decide +kernel)]; kernel_rfl) | (rw [if_neg (by decide +kernel)]; exact ⟨rfl, rfl⟩))
    (fun os started H enc _ => specLengths_lifted os started H enc)
end Go.Proofs.YtkigmpholnfkbaaGreat

