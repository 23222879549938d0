/- SeamGrades returns true -/
import Derived.Deep.CutRange
import Derived.Deep.RegionHeld3
import Derived.RegionTactic
import Derived.Test.YtnfchkkokgmliaaKAlive
import Derived.Test.YtnfchkkokgmliaaKLtP
import Derived.Test.YtnfchkkokgmliaaKGradP
namespace Go.Proofs.Ytnfchkkokgmliaa
open Go.RowKit
theorem gradedP_any (a : PcA) (p : Pc) (m : Int) (w : World) (hp : PcAt w a p) :
    Calls Try.prog 6 #[a.val, .int .i64 m] w (RetG w p.es p.cs m) :=
  graded_any a.nm a.AE a.AN a.AC a.AW a.nE a.cE a.nN a.cN a.nC a.cC a.nW a.cW a.gr m a.mt p.es p.cs w hp.e hp.le hp.ce hp.ce' hp.c hp.lc hp.nc
/- blocks of two cells through stores and new blocks -/
theorem blk_pair {t : TypeId} {w : World} {g : Nat} {x0 x1 a b : Value} (h : Blk t w g [x0, x1]) : Blk t ((w.setCell ⟨g, 0, none⟩ a).setCell ⟨g, 1, none⟩ b) g [a, b] := (h.set 0 a).set 1 b
theorem blk_skip {t : TypeId} {w : World} {g g' : Nat} {cs : List Value} {a b : Value} (h : Blk t w g cs) (hne : g ≠ g') : Blk t ((w.setCell ⟨g', 0, none⟩ a).setCell ⟨g', 1, none⟩ b) g cs := (h.other hne a).other hne b
theorem blk_new {t : TypeId} {w : World} {a b : Value} : Blk t (w.alloc (.cells #[a, b] t)) w.heap.size [a, b] := Blk.new' rfl
theorem blk_new1 {t : TypeId} {w : World} {o : Obj} {a b : Value} : Blk t ((w.alloc o).alloc (.cells #[a, b] t)) (w.heap.size + 1) [a, b] := Blk.new' (by simp)
theorem blk_old {t : TypeId} {w : World} {g : Nat} {cs : List Value} {o : Obj} (h : Blk t w g cs) : Blk t (w.alloc o) g cs := h.ext ((Ext.refl _).alloc _)
theorem blk_drew {t : TypeId} {w : World} {g : Nat} {cs : List Value} (h : Blk t w g cs) : Blk t w.drew g cs := h.ext (Ext.refl _).drew
theorem blk_new_set {t : TypeId} {w : World} {p q : Addr} {u v a b : Value} : Blk t (((w.setCell p u).setCell q v).alloc (.cells #[a, b] t)) w.heap.size [a, b] := Blk.new' (by simp)
theorem ext_pair {w W : World} {g : Nat} {a b : Value} (h : Ext w W) (hg : w.heap.size ≤ g) : Ext w ((W.setCell ⟨g, 0, none⟩ a).setCell ⟨g, 1, none⟩ b) := (h.setCell hg a).setCell hg b
theorem ext_drew {w W : World} (h : Ext w W) : Ext w W.drew := h.drew
theorem ext_alloc {w W : World} {o : Obj} (h : Ext w W) : Ext w (W.alloc o) := h.alloc o
/- what Graded answers, as a slice -/
theorem retG_form {w w' : World} {es : List Edge} {cs : List Spot} {m : Int} {e : Ending} (h : RetG w es cs m e w') : ∃ A n c, e = .returned (.tuple #[.slice A n c, .int .i64 (gradedR es cs m)]) ∧ (gradedR es cs m = 0 → EdgesAt w' A (gradedE es cs m) ∧ n = es.length) ∧ Ext w w' := by
  obtain ⟨v, h1, h2, h3, h4⟩ := h
  by_cases hz : gradedR es cs m = 0
  · obtain ⟨A, c, hv, hE, _⟩ := (h2 hz).slice' (gradedE_len es cs m)
    exact ⟨A, es.length, c, by rw [h1, hv], fun _ => ⟨hE, rfl⟩, h4⟩
  · exact ⟨none, 0, 0, by rw [h1, h3 hz], fun h => absurd h hz, h4⟩
set_option maxRecDepth 100000 in
set_option maxHeartbeats 25600000 in
theorem gradesL_any (a b : PcA) (p q : Pc) (I K M : Int) (w : World) (ha : PcAt w a p) (hb : PcAt w b q) :
    Calls Try.prog 3 #[a.val, b.val, .agg #[.int .i64 I, .int .i64 K, .int .i64 M]] w fun e w' => e = .returned (.bool true) ∧ Ext w w' := by
  have HA := Lib.hid ha; have HB := Lib.hid hb; clear ha hb
  have HL1 := Lib.hid (fun W (h : Ext w W) => lightP_any a p 80 (by omega) W (HA.out.ext h))
  have HL2 := Lib.hid (fun W (h : Ext w W) => lightP_any b q 80 (by omega) W (HB.out.ext h))
  have HG1 := Lib.hid (fun W (h : Ext w W) => gradedP_any a p M W (HA.out.ext h))
  have HG2 := Lib.hid (fun W (h : Ext w W) => gradedP_any b q M W (HB.out.ext h))
  obtain ⟨anm, aAE, anE, acE, agr, aAN, anN, acN, aAC, anC, acC, aAW, anW, acW, amt⟩ := a
  obtain ⟨bnm, bAE, bnE, bcE, bgr, bAN, bnN, bcN, bAC, bnC, bcC, bAW, bnW, bcW, bmt⟩ := b
  simp only [PcA.val] at HL1 HL2 HG1 HG2 ⊢
  obtain ⟨aes, acs, aws, ans⟩ := p
  obtain ⟨bes, bcs, bws, bns⟩ := q
  have HLE1 : Hid (aes.length = anE) := HA.out.le
  have HLE2 : Hid (bes.length = bnE) := HB.out.le
  have HLC1 : Hid (acs.length = anC) := HA.out.lc
  have HLC2 : Hid (bcs.length = bnC) := HB.out.lc
  have HE1 : Hid (EdgesAt w aAE aes) := HA.out.e
  have HE2 : Hid (EdgesAt w bAE bes) := HB.out.e
  have HC1 : Hid (SpotsAt w aAC acs) := HA.out.c
  have HC2 : Hid (SpotsAt w bAC bcs) := HB.out.c
  clear HA HB
  simp only at HG1 HG2
  go_enter Try.func3, Try.ntmps3
  go_upto_region 1 with fail
  refine wp_at fun W0 hW0 => ?_
  have HP0 : Hid (Blk 27 W0 w.heap.size [.string anm, .slice aAE anE acE, .int .i64 agr, .slice aAN anN acN, .slice aAC anC acC, .slice aAW anW acW, .bool amt]) := by show Blk _ _ _ _; rw [hW0]; exact ((Blk.new' rfl).ext ((Ext.refl _).alloc _)).ext ((Ext.refl _).alloc _)
  have HQ0 : Hid (Blk 27 W0 (w.heap.size + 1) [.string bnm, .slice bAE bnE bcE, .int .i64 bgr, .slice bAN bnN bcN, .slice bAC bnC bcC, .slice bAW bnW bcW, .bool bmt]) := by show Blk _ _ _ _; rw [hW0]; exact (Blk.new' (by simp)).ext ((Ext.refl _).alloc _)
  have HT0 : Hid (Blk 29 W0 (w.heap.size + 1 + 1) [.int .i64 I, .int .i64 K, .int .i64 M]) := by show Blk _ _ _ _; rw [hW0]; exact Blk.new' (by simp)
  have HX0 : Hid (Ext w W0) := by show Ext _ _; rw [hW0]; exact (((Ext.refl _).alloc _).alloc _).alloc _
  clear hW0
  obtain ⟨pb, hpb⟩ : ∃ pb, pb = w.heap.size := ⟨_, rfl⟩
  obtain ⟨qb, hqb⟩ : ∃ qb, qb = w.heap.size + 1 := ⟨_, rfl⟩
  obtain ⟨xb, hxb⟩ : ∃ xb, xb = w.heap.size + 1 + 1 := ⟨_, rfl⟩
  rw [← hxb] at HT0 ⊢
  rw [← hqb] at HQ0 ⊢
  rw [← hpb] at HP0 ⊢
  clear hpb hqb hxb
  obtain ⟨c0, c1, c2, c3, c4, c5, c6⟩ := blk7 HP0.out
  go_wp2_with fail
  refine (HL1.out _ HX0.out).mono ?_
  rintro e w1 ⟨b1, rfl, he1, hb1⟩
  have HX1 := Lib.hid (HX0.out.trans he1)
  have HP1 := Lib.hid (HP0.out.ext he1); have HQ1 := Lib.hid (HQ0.out.ext he1); have HT1 := Lib.hid (HT0.out.ext he1)
  clear he1 c0 c1 c2 c3 c4 c5 c6
  cases b1
  · clear hb1
    go_wp2_with fail
    refine (alive_any _).mono ?_
    rintro e w2 ⟨rfl, he2⟩
    go_wp2_with fail
    go_ret
    exact ⟨rfl, HX1.out.trans he2⟩
  have HLT1 := Lib.hid (hb1 rfl); clear hb1
  obtain ⟨c0, c1, c2, c3, c4, c5, c6⟩ := blk7 HQ1.out
  go_wp2_with fail
  refine (HL2.out _ HX1.out).mono ?_
  rintro e w2 ⟨b2, rfl, he2, hb2⟩
  have HX2 := Lib.hid (HX1.out.trans he2)
  have HP2 := Lib.hid (HP1.out.ext he2); have HQ2 := Lib.hid (HQ1.out.ext he2); have HT2 := Lib.hid (HT1.out.ext he2)
  clear he2 c0 c1 c2 c3 c4 c5 c6
  cases b2
  · clear hb2
    go_wp2_with fail
    refine (alive_any _).mono ?_
    rintro e w3 ⟨rfl, he3⟩
    go_wp2_with fail
    go_ret
    exact ⟨rfl, HX2.out.trans he3⟩
  have HLT2 := Lib.hid (hb2 rfl); clear hb2
  obtain ⟨c0, c1, c2, c3, c4, c5, c6⟩ := blk7 HP2.out
  have t2 := HT2.out.cell 2
  simp only [List.getElem?_cons_succ, List.getElem?_cons_zero] at t2
  go_wp2_with fail
  refine (HG1.out _ HX2.out).mono ?_
  intro e w3 hr3
  obtain ⟨A3, n3, c3', rfl, hv3, he3⟩ := retG_form hr3
  have HX3 := Lib.hid (HX2.out.trans he3)
  have HP3 := Lib.hid (HP2.out.ext he3); have HQ3 := Lib.hid (HQ2.out.ext he3); have HT3 := Lib.hid (HT2.out.ext he3)
  have HV3 := Lib.hid hv3
  clear he3 c0 c1 c2 c3 c4 c5 c6 t2 hr3 hv3
  obtain ⟨R1, hR1⟩ : ∃ R1, R1 = gradedR aes acs M := ⟨_, rfl⟩
  rw [← hR1]
  have HR1 := Lib.hid hR1; clear hR1
  obtain ⟨c0, c1, c2, c3, c4, c5, c6⟩ := blk7 HQ3.out
  have t2 := HT3.out.cell 2
  simp only [List.getElem?_cons_succ, List.getElem?_cons_zero] at t2
  go_wp2_with fail
  refine (HG2.out _ HX3.out).mono ?_
  intro e w4 hr4
  obtain ⟨A4, n4, c4', rfl, hv4, he4⟩ := retG_form hr4
  have HX4 := Lib.hid (HX3.out.trans he4)
  have HP4 := Lib.hid (HP3.out.ext he4); have HQ4 := Lib.hid (HQ3.out.ext he4); have HT4 := Lib.hid (HT3.out.ext he4)
  have HV34 := Lib.hid (fun h => (HV3.out h).1.ext he4)
  have HV4 := Lib.hid hv4
  clear he4 c0 c1 c2 c3 c4 c5 c6 t2 hr4 hv4
  obtain ⟨R2, hR2⟩ : ∃ R2, R2 = gradedR bes bcs M := ⟨_, rfl⟩
  rw [← hR2]
  have HR2 := Lib.hid hR2
  clear hR2
  obtain ⟨c0, c1, c2, c3, c4, c5, c6⟩ := blk7 HP4.out
  obtain ⟨d0, d1, d2, d3, d4, d5, d6⟩ := blk7 HQ4.out
  have t0 := HT4.out.cell 0
  have t1 := HT4.out.cell 1
  simp only [List.getElem?_cons_succ, List.getElem?_cons_zero] at t0 t1
  by_cases z1 : R1 = 0
  rotate_left
  · have zb : (R1 != 0) = true := by simp [z1]
    clear z1
    go_wp2_with fail
    refine (alive_any _).mono ?_
    rintro e w5 ⟨rfl, he5⟩
    go_wp2_with fail
    go_ret
    exact ⟨rfl, HX4.out.trans he5⟩
  subst z1
  by_cases z2 : R2 = 0
  rotate_left
  · have zb : (R2 != 0) = true := by simp [z2]
    clear z2
    go_wp2_with fail
    refine (alive_any _).mono ?_
    rintro e w5 ⟨rfl, he5⟩
    go_wp2_with fail
    go_ret
    exact ⟨rfl, HX4.out.trans he5⟩
  subst z2
  obtain ⟨hv3, hn3⟩ := HV3.out HR1.out.symm
  obtain ⟨hv4, hn4⟩ := HV4.out HR2.out.symm
  have HG3 := Lib.hid (HV34.out HR1.out.symm); have HG4 := Lib.hid hv4
  rw [HLE1.out] at hn3
  rw [HLE2.out] at hn4
  subst hn3; subst hn4
  clear hv3 hv4
  by_cases i0 : I < 0
  · go_wp2_with fail
    refine (alive_any _).mono ?_
    rintro e w5 ⟨rfl, he5⟩
    go_wp2_with fail
    go_ret
    exact ⟨rfl, HX4.out.trans he5⟩
  by_cases i1 : (n3 : Int) ≤ I
  · go_wp2_with fail
    refine (alive_any _).mono ?_
    rintro e w5 ⟨rfl, he5⟩
    go_wp2_with fail
    go_ret
    exact ⟨rfl, HX4.out.trans he5⟩
  by_cases k0 : K < 0
  · go_wp2_with fail
    refine (alive_any _).mono ?_
    rintro e w5 ⟨rfl, he5⟩
    go_wp2_with fail
    go_ret
    exact ⟨rfl, HX4.out.trans he5⟩
  by_cases k1 : (n4 : Int) ≤ K
  · go_wp2_with fail
    refine (alive_any _).mono ?_
    rintro e w5 ⟨rfl, he5⟩
    go_wp2_with fail
    go_ret
    exact ⟨rfl, HX4.out.trans he5⟩
  have hn3 : ((n3 : Int) != n3) = false := by simp
  have hn4 : ((n4 : Int) != n4) = false := by simp
  obtain ⟨IN, rfl⟩ := Int.eq_ofNat_of_zero_le (show 0 ≤ I by omega)
  obtain ⟨KN, rfl⟩ := Int.eq_ofNat_of_zero_le (show 0 ≤ K by omega)
  have hIN : IN < n3 := by omega
  have hKN : KN < n4 := by omega
  have HIl : Hid (IN < aes.length) := by show _ < _; rw [HLE1.out]; exact hIN
  have HKl : Hid (KN < bes.length) := by show _ < _; rw [HLE2.out]; exact hKN
  have u0 : decide ((IN : Int) < 0) = false := decide_eq_false (by omega)
  have u1 : decide (n3 ≤ IN) = false := decide_eq_false (by omega)
  have u2 : decide ((KN : Int) < 0) = false := decide_eq_false (by omega)
  have u3 : decide (n4 ≤ KN) = false := decide_eq_false (by omega)
  clear i0 i1 k0 k1
  obtain ⟨be1, oe1, L1, cL1, hAE1, _, g1, hS1, _, _⟩ := (HE1.out.ext HX4.out).g (k := IN) HIl.out
  subst hAE1
  obtain ⟨be2, oe2, L2, cL2, hAE2, _, g2, hS2, _, _⟩ := (HE2.out.ext HX4.out).g (k := KN) HKl.out
  subst hAE2
  have hl1 := (HLT1.out.l IN HIl.out).1
  obtain ⟨la, hla⟩ : ∃ l, l = (gE aes IN).2 := ⟨_, rfl⟩
  obtain ⟨lb, hlb⟩ : ∃ l, l = (gE bes KN).2 := ⟨_, rfl⟩
  rw [← hla] at g1 hS1 hl1
  rw [← hlb] at g2 hS2
  obtain ⟨m1, hm1⟩ : ∃ m, m = la.length := ⟨_, rfl⟩
  obtain ⟨m2, hm2⟩ : ∃ m, m = lb.length := ⟨_, rfl⟩
  rw [← hm1] at g1
  rw [← hm2] at g2
  have HLA := Lib.hid hla; have HLB := Lib.hid hlb
  have HCV : Hid (∃ (F : Bool) (Q D1 D2 : Int) (OK : Bool), (OK = true → la.length = lb.length ∧ cgN la lb < 8 ∧ F = cgF (cgN la lb) ∧ Q = cgQ (cgN la lb)) ∧ ∀ W, Ext w4 W → Calls Try.prog 7 #[.slice L1 m1 cL1, .slice L2 m2 cL2] W fun e w' => e = .returned (.tuple #[.agg #[.bool F, .int .i64 Q], .agg #[.int .i64 D1, .int .i64 D2], .bool OK]) ∧ Ext W w') := by
    show ∃ _, _
    by_cases hc : la.length = lb.length ∧ la.length ≠ 0 ∧ cgN la lb < 8
    · refine ⟨cgF (cgN la lb), cgQ (cgN la lb), (cgD la lb (cgN la lb)).1, (cgD la lb (cgN la lb)).2, true, fun _ => ⟨hc.1, hc.2.2, rfl, rfl⟩, fun W h => ?_⟩
      have := congruent_any L1 L2 m1 m2 cL1 cL2 la lb W (hS1.ext h) (hS2.ext h) hm1.symm hm2.symm (by omega)
      exact this.mono fun e w' ⟨he, hx⟩ => ⟨by rw [he, if_pos hc], hx⟩
    · refine ⟨false, 0, 0, 0, false, fun h => (by cases h), fun W h => ?_⟩
      have := congruent_any L1 L2 m1 m2 cL1 cL2 la lb W (hS1.ext h) (hS2.ext h) hm1.symm hm2.symm (by omega)
      exact this.mono fun e w' ⟨he, hx⟩ => ⟨by rw [he, if_neg hc], hx⟩
  obtain ⟨F, Q, D1, D2, OK, hOK, hCC⟩ := HCV.out
  have HOK := Lib.hid hOK; have HCC := Lib.hid hCC
  clear HCV hOK hCC hS1 hS2 hl1 hla hlb hm1 hm2
  obtain ⟨c0, c1, c2, c3, c4, c5, c6⟩ := blk7 HP4.out
  obtain ⟨d0, d1, d2, d3, d4, d5, d6⟩ := blk7 HQ4.out
  have t0 := HT4.out.cell 0
  have t1 := HT4.out.cell 1
  simp only [List.getElem?_cons_succ, List.getElem?_cons_zero] at t0 t1
  have v0 : (0 : Int) ≤ (IN : Int) := by omega
  have v1 : (IN : Int) < n3 := by omega
  have v2 : (0 : Int) ≤ (KN : Int) := by omega
  have v3 : (KN : Int) < n4 := by omega
  go_upto_region 7 with fail
  go_cut [11, 12, 13] from 93 to 111 (fun pa pb' ok wc => ∃ ab bb, pa = .pointer (some ⟨ab, 0, none⟩) ∧ pb' = .pointer (some ⟨bb, 0, none⟩) ∧ ok = .bool OK ∧ Blk 36 wc ab [.bool F, .int .i64 Q] ∧ Ext w4 wc)
  case first =>
    have keep : ∀ W1 : World, Ext w4 W1 → (Ext w4 W1 ∧ W1.cell? ⟨pb, 1, none⟩ = some (.slice (some ⟨be1, oe1, none⟩) n3 acE) ∧ W1.cell? ⟨xb, 0, none⟩ = some (.int .i64 (IN : Int)) ∧ W1.cell? ⟨be1, oe1 + IN * 2 + 1, none⟩ = some (.slice L1 m1 cL1) ∧ W1.cell? ⟨qb, 1, none⟩ = some (.slice (some ⟨be2, oe2, none⟩) n4 bcE) ∧ W1.cell? ⟨xb, 1, none⟩ = some (.int .i64 (KN : Int)) ∧ W1.cell? ⟨be2, oe2 + KN * 2 + 1, none⟩ = some (.slice L2 m2 cL2)) := fun W1 hx => ⟨hx, hx.cell c1, hx.cell t0, hx.cell g1, hx.cell d1, hx.cell t1, hx.cell g2⟩
    have KEEP := Lib.hid keep; clear keep c0 c1 c2 c3 c4 c5 c6 d0 d1 d2 d3 d4 d5 d6 t0 t1 g1 g2
    go_region_held3 (fun W => Ext w4 W ∧ W.cell? ⟨pb, 1, none⟩ = some (.slice (some ⟨be1, oe1, none⟩) n3 acE) ∧ W.cell? ⟨xb, 0, none⟩ = some (.int .i64 (IN : Int)) ∧ W.cell? ⟨be1, oe1 + IN * 2 + 1, none⟩ = some (.slice L1 m1 cL1) ∧ W.cell? ⟨qb, 1, none⟩ = some (.slice (some ⟨be2, oe2, none⟩) n4 bcE) ∧ W.cell? ⟨xb, 1, none⟩ = some (.int .i64 (KN : Int)) ∧ W.cell? ⟨be2, oe2 + KN * 2 + 1, none⟩ = some (.slice L2 m2 cL2))
      (first | (with_reducible assumption) | (with_reducible exact KEEP.out _ HX5.out) | exact KEEP.out _ (by (repeat (first | (with_reducible exact Ext.refl _) | (with_reducible exact HX5.out) | (with_reducible refine ext_drew ?_) | (with_reducible refine ext_alloc ?_) | (with_reducible refine ext_pair ?_ (by omega))))) | fail)
      (first
        | (go_at_call 7; (with_reducible refine (HCC.out _ (by (repeat (first | (with_reducible exact Ext.refl _) | (with_reducible refine ext_drew ?_) | (with_reducible refine ext_alloc ?_) | (with_reducible refine ext_pair ?_ (by omega)))))).mono ?_); rintro e w5 ⟨rfl, he5⟩; have HX5 : Hid (Ext w4 w5) := Ext.trans (by (repeat (first | (with_reducible exact Ext.refl _) | (with_reducible refine ext_drew ?_) | (with_reducible refine ext_alloc ?_) | (with_reducible refine ext_pair ?_ (by omega))))) he5; have hz5 : w4.heap.size ≤ w5.heap.size := HX5.out.size; have HE5 := Lib.hid he5; clear he5; (first | (have kb0 : Blk 36 w5 (w4.heap.size) [.bool false, .int .i64 0] := Blk.ext (blk_drew blk_new) HE5.out; obtain ⟨ka0, kc0⟩ := blk2 kb0; have kf0 := kb0.frozen 0; have kg0 := kb0.frozen 1; have kl0 := kb0.lt; clear kb0) | (have kb0 : Blk 36 w5 (w4.heap.size) [.bool false, .int .i64 0] := Blk.ext (blk_drew (blk_old blk_new)) HE5.out; obtain ⟨ka0, kc0⟩ := blk2 kb0; have kf0 := kb0.frozen 0; have kg0 := kb0.frozen 1; have kl0 := kb0.lt; clear kb0) | skip); (first | (have kb1 : Blk 38 w5 (w4.heap.size) [.int .i64 0, .int .i64 0] := Blk.ext (blk_drew blk_new) HE5.out; obtain ⟨ka1, kc1⟩ := blk2 kb1; have kf1 := kb1.frozen 0; have kg1 := kb1.frozen 1; have kl1 := kb1.lt; clear kb1) | (have kb1 : Blk 38 w5 (w4.heap.size) [.int .i64 0, .int .i64 0] := Blk.ext (blk_drew (blk_old blk_new)) HE5.out; obtain ⟨ka1, kc1⟩ := blk2 kb1; have kf1 := kb1.frozen 0; have kg1 := kb1.frozen 1; have kl1 := kb1.lt; clear kb1) | skip); (first | (have kb2 : Blk 36 w5 (w4.heap.size + 1) [.bool false, .int .i64 0] := Blk.ext (blk_drew blk_new1) HE5.out; obtain ⟨ka2, kc2⟩ := blk2 kb2; have kf2 := kb2.frozen 0; have kg2 := kb2.frozen 1; have kl2 := kb2.lt; clear kb2) | skip); (first | (have kb3 : Blk 38 w5 (w4.heap.size + 1) [.int .i64 0, .int .i64 0] := Blk.ext (blk_drew blk_new1) HE5.out; obtain ⟨ka3, kc3⟩ := blk2 kb3; have kf3 := kb3.frozen 0; have kg3 := kb3.frozen 1; have kl3 := kb3.lt; clear kb3) | skip))
        | fail)
    all_goals
      go_wp2_with fail
      go_meet
    all_goals refine ⟨_, _, rfl, rfl, rfl, ?_, ?_⟩
    all_goals (repeat (first | (with_reducible exact blk_new) | (with_reducible exact blk_new1) | (with_reducible exact blk_new_set) | (with_reducible apply blk_pair) | (with_reducible refine blk_skip ?_ (by omega)) | (with_reducible refine blk_old ?_) | (with_reducible refine blk_drew ?_) | (with_reducible refine Blk.ext ?_ HE5.out) | (with_reducible exact HX5.out) | (with_reducible exact Ext.refl _) | (with_reducible refine ext_alloc ?_) | (with_reducible refine ext_drew ?_) | (with_reducible refine ext_pair ?_ (by omega))))
  case rest =>
    obtain ⟨ab, bb, hpa, hpb, hok, hBt, hxc⟩ := hcut
    subst hpa hpb hok
    obtain ⟨wz, rfl⟩ : ∃ wz : World, wz = wc := ⟨_, rfl⟩
    have HXz := Lib.hid (HX4.out.trans hxc); have HBT := Lib.hid hBt
    have HPz := Lib.hid (HP4.out.ext hxc); have HQz := Lib.hid (HQ4.out.ext hxc); have HTz := Lib.hid (HT4.out.ext hxc); have HGz3 := Lib.hid (HG3.out.ext hxc); have HGz4 := Lib.hid (HG4.out.ext hxc)
    clear c0 c1 c2 c3 c4 c5 c6 d0 d1 d2 d3 d4 d5 d6 t0 t1 g1 g2 hBt hxc
    have HGO1 := Lib.hid ((gradedR_iff aes acs M).1 HR1.out.symm)
    have HGO2 := Lib.hid ((gradedR_iff bes bcs M).1 HR2.out.symm)
    have hcl1 : anC = n3 := by rw [← HLC1.out, HGO1.out.len, HLE1.out]
    have hcl2 : bnC = n4 := by rw [← HLC2.out, HGO2.out.len, HLE2.out]
    subst hcl1 hcl2
    have h20 : anC ≤ 20 := by rw [← HLE1.out]; exact HLT1.out.e
    have h20' : bnC ≤ 20 := by rw [← HLE2.out]; exact HLT2.out.e
    obtain ⟨c0, c1, c2, c3, c4, c5, c6⟩ := blk7 HPz.out
    obtain ⟨d0, d1, d2, d3, d4, d5, d6⟩ := blk7 HQz.out
    cases OK
    · clear HOK HCC
      go_wp2_with fail
      refine (alive_any _).mono ?_
      rintro e w6 ⟨rfl, he6⟩
      go_wp2_with fail
      go_ret
      exact ⟨rfl, HXz.out.trans he6⟩
    obtain ⟨hlen, hcg, hF, hQ⟩ := HOK.out rfl
    have HLEN := Lib.hid hlen; have HCG := Lib.hid hcg; have HF := Lib.hid hF; have HQ := Lib.hid hQ
    clear HOK HCC hlen hcg hF hQ
    go_upto_region 10 with fail
    obtain ⟨bc1, oc1, hAC1, e0, e1⟩ := (HC1.out.ext HXz.out).g (k := IN) (by rw [HLC1.out]; exact hIN)
    subst hAC1
    have hmod1 : (IN + 1) % anC < anC := Nat.mod_lt _ (by omega)
    obtain ⟨e2, e3⟩ := (HC1.out.ext HXz.out).at1 (k := (IN + 1) % anC) (by rw [HLC1.out]; exact hmod1)
    obtain ⟨P0, hP0⟩ : ∃ P, P = gS acs IN := ⟨_, rfl⟩
    obtain ⟨P1, hP1⟩ : ∃ P, P = gS acs ((IN + 1) % anC) := ⟨_, rfl⟩
    rw [← hP0] at e0 e1
    rw [← hP1] at e2 e3
    have HP0' := Lib.hid hP0; have HP1' := Lib.hid hP1; clear hP0 hP1
    obtain ⟨S1, hS1⟩ : ∃ S, S = applyT F Q P0 := ⟨_, rfl⟩
    obtain ⟨S2, hS2⟩ : ∃ S, S = applyT F Q P1 := ⟨_, rfl⟩
    have HA1 : Hid (∀ W, Calls Try.prog 8 #[.agg #[.bool F, .int .i64 Q], .agg #[.int .i64 P0.1, .int .i64 P0.2]] W fun e w' => e = .returned (.agg #[.int .i64 S1.1, .int .i64 S1.2]) ∧ Ext W w') := fun W => by rw [hS1]; exact apply_any F Q P0 W
    have HA2 : Hid (∀ W, Calls Try.prog 8 #[.agg #[.bool F, .int .i64 Q], .agg #[.int .i64 P1.1, .int .i64 P1.2]] W fun e w' => e = .returned (.agg #[.int .i64 S2.1, .int .i64 S2.2]) ∧ Ext W w') := fun W => by rw [hS2]; exact apply_any F Q P1 W
    have HS1 := Lib.hid hS1; have HS2 := Lib.hid hS2; clear hS1 hS2
    obtain ⟨a0, a1⟩ := blk2 HBT.out
    have t0 := HTz.out.cell 0
    simp only [List.getElem?_cons_zero] at t0
    have hw1 : IntKind.i64.wrap ((IN : Int) + 1) = (IN : Int) + 1 := IntWalk.i64_in _ (by omega)
    have hnN : ¬ anC = 0 := by omega
    have hnp : 0 < anC := by omega
    obtain ⟨hq0, hq1, hq2⟩ := mod_idx IN anC 1 1 rfl (by omega)
    have hj3 : ((IN : Int) + 1).tmod anC = (((IN + 1) % anC : Nat) : Int) := by rw [Int.tmod_eq_emod_of_nonneg (by omega)]; omega
    go_cut [14, 15] from 131 to 150 (fun pa pb' wc => ∃ sb tb, pa = .pointer (some ⟨sb, 0, none⟩) ∧ pb' = .pointer (some ⟨tb, 0, none⟩) ∧ Blk 38 wc sb [.int .i64 S1.1, .int .i64 S1.2] ∧ Blk 38 wc tb [.int .i64 S2.1, .int .i64 S2.2] ∧ Ext wz wc)
    case first =>
      have keep : ∀ W : World, Ext wz W → (Ext wz W ∧ W.cell? ⟨ab, 0, none⟩ = some (.bool F) ∧ W.cell? ⟨ab, 1, none⟩ = some (.int .i64 Q) ∧ W.cell? ⟨pb, 4, none⟩ = some (.slice (some ⟨bc1, oc1, none⟩) anC acC) ∧ W.cell? ⟨xb, 0, none⟩ = some (.int .i64 (IN : Int)) ∧ W.cell? ⟨bc1, oc1 + IN * 2, none⟩ = some (.int .i64 P0.1) ∧ W.cell? ⟨bc1, oc1 + IN * 2 + 1, none⟩ = some (.int .i64 P0.2) ∧ W.cell? ⟨bc1, oc1 + (IN + 1) % anC * 2, none⟩ = some (.int .i64 P1.1) ∧ W.cell? ⟨bc1, oc1 + (IN + 1) % anC * 2 + 1, none⟩ = some (.int .i64 P1.2)) := fun W hx => ⟨hx, hx.cell a0, hx.cell a1, hx.cell c4, hx.cell t0, hx.cell e0, hx.cell e1, hx.cell e2, hx.cell e3⟩
      have KEEP := Lib.hid keep; clear keep c0 c1 c2 c3 c4 c5 c6 d0 d1 d2 d3 d4 d5 d6 t0 a0 a1 e0 e1 e2 e3
      go_region_held3 (fun W => Ext wz W ∧ W.cell? ⟨ab, 0, none⟩ = some (.bool F) ∧ W.cell? ⟨ab, 1, none⟩ = some (.int .i64 Q) ∧ W.cell? ⟨pb, 4, none⟩ = some (.slice (some ⟨bc1, oc1, none⟩) anC acC) ∧ W.cell? ⟨xb, 0, none⟩ = some (.int .i64 (IN : Int)) ∧ W.cell? ⟨bc1, oc1 + IN * 2, none⟩ = some (.int .i64 P0.1) ∧ W.cell? ⟨bc1, oc1 + IN * 2 + 1, none⟩ = some (.int .i64 P0.2) ∧ W.cell? ⟨bc1, oc1 + (IN + 1) % anC * 2, none⟩ = some (.int .i64 P1.1) ∧ W.cell? ⟨bc1, oc1 + (IN + 1) % anC * 2 + 1, none⟩ = some (.int .i64 P1.2))
        (first | (with_reducible assumption) | (with_reducible exact KEEP.out _ HX6.out) | (with_reducible exact KEEP.out _ HX7.out) | exact KEEP.out _ (by (repeat (first | (with_reducible exact Ext.refl _) | (with_reducible exact HX6.out) | (with_reducible exact HX7.out) | (with_reducible refine ext_drew ?_) | (with_reducible refine ext_alloc ?_) | (with_reducible refine ext_pair ?_ (by omega))))) | fail)
        (first
          | (go_at_call 8; (with_reducible refine (HA1.out _).mono ?_); rintro e w6 ⟨rfl, he6⟩; have HX6 : Hid (Ext wz w6) := Ext.trans (by (repeat (first | (with_reducible exact Ext.refl _) | (with_reducible exact HX6.out) | (with_reducible exact HX7.out) | (with_reducible refine ext_drew ?_) | (with_reducible refine ext_alloc ?_) | (with_reducible refine ext_pair ?_ (by omega))))) he6; have hz6 : wz.heap.size ≤ w6.heap.size := HX6.out.size; have HE6 := Lib.hid he6; clear he6; (first | (have kb0 : Blk 38 w6 (wz.heap.size) [.int .i64 0, .int .i64 0] := Blk.ext (blk_drew blk_new) HE6.out; obtain ⟨ka0, kc0⟩ := blk2 kb0; have kf0 := kb0.frozen 0; have kg0 := kb0.frozen 1; have kl0 := kb0.lt; clear kb0) | (have kb0 : Blk 38 w6 (wz.heap.size) [.int .i64 0, .int .i64 0] := Blk.ext (blk_drew (blk_old blk_new)) HE6.out; obtain ⟨ka0, kc0⟩ := blk2 kb0; have kf0 := kb0.frozen 0; have kg0 := kb0.frozen 1; have kl0 := kb0.lt; clear kb0) | (have kb0 : Blk 38 w6 (wz.heap.size) [.int .i64 0, .int .i64 0] := Blk.ext (Blk.ext (blk_drew blk_new) HE7.out) HE6.out; obtain ⟨ka0, kc0⟩ := blk2 kb0; have kf0 := kb0.frozen 0; have kg0 := kb0.frozen 1; have kl0 := kb0.lt; clear kb0) | (have kb0 : Blk 38 w6 (wz.heap.size) [.int .i64 0, .int .i64 0] := Blk.ext (blk_old (Blk.ext (blk_drew blk_new) HE7.out)) HE6.out; obtain ⟨ka0, kc0⟩ := blk2 kb0; have kf0 := kb0.frozen 0; have kg0 := kb0.frozen 1; have kl0 := kb0.lt; clear kb0) | (have kb0 : Blk 38 w6 (wz.heap.size) [.int .i64 0, .int .i64 0] := Blk.ext (blk_skip (Blk.ext (blk_drew blk_new) HE7.out) (Nat.ne_of_lt (Nat.lt_succ_self _))) HE6.out; obtain ⟨ka0, kc0⟩ := blk2 kb0; have kf0 := kb0.frozen 0; have kg0 := kb0.frozen 1; have kl0 := kb0.lt; clear kb0) | (have kb0 : Blk 38 w6 (wz.heap.size) [.int .i64 0, .int .i64 0] := Blk.ext (blk_old (blk_skip (Blk.ext (blk_drew blk_new) HE7.out) (Nat.ne_of_lt (Nat.lt_succ_self _)))) HE6.out; obtain ⟨ka0, kc0⟩ := blk2 kb0; have kf0 := kb0.frozen 0; have kg0 := kb0.frozen 1; have kl0 := kb0.lt; clear kb0) | (have kb0 : Blk 38 w6 (wz.heap.size) [.int .i64 0, .int .i64 0] := Blk.ext (Blk.ext (blk_drew (blk_old blk_new)) HE7.out) HE6.out; obtain ⟨ka0, kc0⟩ := blk2 kb0; have kf0 := kb0.frozen 0; have kg0 := kb0.frozen 1; have kl0 := kb0.lt; clear kb0) | (have kb0 : Blk 38 w6 (wz.heap.size) [.int .i64 0, .int .i64 0] := Blk.ext (blk_old (Blk.ext (blk_drew (blk_old blk_new)) HE7.out)) HE6.out; obtain ⟨ka0, kc0⟩ := blk2 kb0; have kf0 := kb0.frozen 0; have kg0 := kb0.frozen 1; have kl0 := kb0.lt; clear kb0) | (have kb0 : Blk 38 w6 (wz.heap.size) [.int .i64 0, .int .i64 0] := Blk.ext (blk_skip (Blk.ext (blk_drew (blk_old blk_new)) HE7.out) (Nat.ne_of_lt (Nat.lt_succ_self _))) HE6.out; obtain ⟨ka0, kc0⟩ := blk2 kb0; have kf0 := kb0.frozen 0; have kg0 := kb0.frozen 1; have kl0 := kb0.lt; clear kb0) | (have kb0 : Blk 38 w6 (wz.heap.size) [.int .i64 0, .int .i64 0] := Blk.ext (blk_old (blk_skip (Blk.ext (blk_drew (blk_old blk_new)) HE7.out) (Nat.ne_of_lt (Nat.lt_succ_self _)))) HE6.out; obtain ⟨ka0, kc0⟩ := blk2 kb0; have kf0 := kb0.frozen 0; have kg0 := kb0.frozen 1; have kl0 := kb0.lt; clear kb0) | skip); (first | (have kb1 : Blk 38 w6 (wz.heap.size + 1) [.int .i64 0, .int .i64 0] := Blk.ext (blk_drew blk_new1) HE6.out; obtain ⟨ka1, kc1⟩ := blk2 kb1; have kf1 := kb1.frozen 0; have kg1 := kb1.frozen 1; have kl1 := kb1.lt; clear kb1) | (have kb1 : Blk 38 w6 (wz.heap.size + 1) [.int .i64 0, .int .i64 0] := Blk.ext (Blk.ext (blk_drew blk_new1) HE7.out) HE6.out; obtain ⟨ka1, kc1⟩ := blk2 kb1; have kf1 := kb1.frozen 0; have kg1 := kb1.frozen 1; have kl1 := kb1.lt; clear kb1) | (have kb1 : Blk 38 w6 (wz.heap.size + 1) [.int .i64 0, .int .i64 0] := Blk.ext (blk_old (Blk.ext (blk_drew blk_new1) HE7.out)) HE6.out; obtain ⟨ka1, kc1⟩ := blk2 kb1; have kf1 := kb1.frozen 0; have kg1 := kb1.frozen 1; have kl1 := kb1.lt; clear kb1) | (have kb1 : Blk 38 w6 (wz.heap.size + 1) [.int .i64 0, .int .i64 0] := Blk.ext (blk_skip (Blk.ext (blk_drew blk_new1) HE7.out) (Nat.succ_ne_self _)) HE6.out; obtain ⟨ka1, kc1⟩ := blk2 kb1; have kf1 := kb1.frozen 0; have kg1 := kb1.frozen 1; have kl1 := kb1.lt; clear kb1) | (have kb1 : Blk 38 w6 (wz.heap.size + 1) [.int .i64 0, .int .i64 0] := Blk.ext (blk_old (blk_skip (Blk.ext (blk_drew blk_new1) HE7.out) (Nat.succ_ne_self _))) HE6.out; obtain ⟨ka1, kc1⟩ := blk2 kb1; have kf1 := kb1.frozen 0; have kg1 := kb1.frozen 1; have kl1 := kb1.lt; clear kb1) | skip); (first | (have kb2 : Blk 38 w6 (w7.heap.size) [.int .i64 0, .int .i64 0] := Blk.ext (blk_new) HE6.out; obtain ⟨ka2, kc2⟩ := blk2 kb2; have kf2 := kb2.frozen 0; have kg2 := kb2.frozen 1; have kl2 := kb2.lt; clear kb2) | (have kb2 : Blk 38 w6 (w7.heap.size) [.int .i64 0, .int .i64 0] := Blk.ext (blk_old blk_new) HE6.out; obtain ⟨ka2, kc2⟩ := blk2 kb2; have kf2 := kb2.frozen 0; have kg2 := kb2.frozen 1; have kl2 := kb2.lt; clear kb2) | (have kb2 : Blk 38 w6 (w7.heap.size) [.int .i64 0, .int .i64 0] := Blk.ext (blk_new_set) HE6.out; obtain ⟨ka2, kc2⟩ := blk2 kb2; have kf2 := kb2.frozen 0; have kg2 := kb2.frozen 1; have kl2 := kb2.lt; clear kb2) | skip); (first | (have kb3 : Blk 38 w6 (w7.heap.size + 1) [.int .i64 0, .int .i64 0] := Blk.ext (blk_new1) HE6.out; obtain ⟨ka3, kc3⟩ := blk2 kb3; have kf3 := kb3.frozen 0; have kg3 := kb3.frozen 1; have kl3 := kb3.lt; clear kb3) | skip))
          | (go_at_call 8; (with_reducible refine (HA2.out _).mono ?_); rintro e w7 ⟨rfl, he7⟩; have HX7 : Hid (Ext wz w7) := Ext.trans (by (repeat (first | (with_reducible exact Ext.refl _) | (with_reducible exact HX6.out) | (with_reducible exact HX7.out) | (with_reducible refine ext_drew ?_) | (with_reducible refine ext_alloc ?_) | (with_reducible refine ext_pair ?_ (by omega))))) he7; have hz7 : wz.heap.size ≤ w7.heap.size := HX7.out.size; have HE7 := Lib.hid he7; clear he7; (first | (have kb4 : Blk 38 w7 (wz.heap.size) [.int .i64 0, .int .i64 0] := Blk.ext (blk_drew blk_new) HE7.out; obtain ⟨ka4, kc4⟩ := blk2 kb4; have kf4 := kb4.frozen 0; have kg4 := kb4.frozen 1; have kl4 := kb4.lt; clear kb4) | (have kb4 : Blk 38 w7 (wz.heap.size) [.int .i64 0, .int .i64 0] := Blk.ext (blk_drew (blk_old blk_new)) HE7.out; obtain ⟨ka4, kc4⟩ := blk2 kb4; have kf4 := kb4.frozen 0; have kg4 := kb4.frozen 1; have kl4 := kb4.lt; clear kb4) | (have kb4 : Blk 38 w7 (wz.heap.size) [.int .i64 0, .int .i64 0] := Blk.ext (Blk.ext (blk_drew blk_new) HE6.out) HE7.out; obtain ⟨ka4, kc4⟩ := blk2 kb4; have kf4 := kb4.frozen 0; have kg4 := kb4.frozen 1; have kl4 := kb4.lt; clear kb4) | (have kb4 : Blk 38 w7 (wz.heap.size) [.int .i64 0, .int .i64 0] := Blk.ext (blk_old (Blk.ext (blk_drew blk_new) HE6.out)) HE7.out; obtain ⟨ka4, kc4⟩ := blk2 kb4; have kf4 := kb4.frozen 0; have kg4 := kb4.frozen 1; have kl4 := kb4.lt; clear kb4) | (have kb4 : Blk 38 w7 (wz.heap.size) [.int .i64 0, .int .i64 0] := Blk.ext (blk_skip (Blk.ext (blk_drew blk_new) HE6.out) (Nat.ne_of_lt (Nat.lt_succ_self _))) HE7.out; obtain ⟨ka4, kc4⟩ := blk2 kb4; have kf4 := kb4.frozen 0; have kg4 := kb4.frozen 1; have kl4 := kb4.lt; clear kb4) | (have kb4 : Blk 38 w7 (wz.heap.size) [.int .i64 0, .int .i64 0] := Blk.ext (blk_old (blk_skip (Blk.ext (blk_drew blk_new) HE6.out) (Nat.ne_of_lt (Nat.lt_succ_self _)))) HE7.out; obtain ⟨ka4, kc4⟩ := blk2 kb4; have kf4 := kb4.frozen 0; have kg4 := kb4.frozen 1; have kl4 := kb4.lt; clear kb4) | (have kb4 : Blk 38 w7 (wz.heap.size) [.int .i64 0, .int .i64 0] := Blk.ext (Blk.ext (blk_drew (blk_old blk_new)) HE6.out) HE7.out; obtain ⟨ka4, kc4⟩ := blk2 kb4; have kf4 := kb4.frozen 0; have kg4 := kb4.frozen 1; have kl4 := kb4.lt; clear kb4) | (have kb4 : Blk 38 w7 (wz.heap.size) [.int .i64 0, .int .i64 0] := Blk.ext (blk_old (Blk.ext (blk_drew (blk_old blk_new)) HE6.out)) HE7.out; obtain ⟨ka4, kc4⟩ := blk2 kb4; have kf4 := kb4.frozen 0; have kg4 := kb4.frozen 1; have kl4 := kb4.lt; clear kb4) | (have kb4 : Blk 38 w7 (wz.heap.size) [.int .i64 0, .int .i64 0] := Blk.ext (blk_skip (Blk.ext (blk_drew (blk_old blk_new)) HE6.out) (Nat.ne_of_lt (Nat.lt_succ_self _))) HE7.out; obtain ⟨ka4, kc4⟩ := blk2 kb4; have kf4 := kb4.frozen 0; have kg4 := kb4.frozen 1; have kl4 := kb4.lt; clear kb4) | (have kb4 : Blk 38 w7 (wz.heap.size) [.int .i64 0, .int .i64 0] := Blk.ext (blk_old (blk_skip (Blk.ext (blk_drew (blk_old blk_new)) HE6.out) (Nat.ne_of_lt (Nat.lt_succ_self _)))) HE7.out; obtain ⟨ka4, kc4⟩ := blk2 kb4; have kf4 := kb4.frozen 0; have kg4 := kb4.frozen 1; have kl4 := kb4.lt; clear kb4) | skip); (first | (have kb5 : Blk 38 w7 (wz.heap.size + 1) [.int .i64 0, .int .i64 0] := Blk.ext (blk_drew blk_new1) HE7.out; obtain ⟨ka5, kc5⟩ := blk2 kb5; have kf5 := kb5.frozen 0; have kg5 := kb5.frozen 1; have kl5 := kb5.lt; clear kb5) | (have kb5 : Blk 38 w7 (wz.heap.size + 1) [.int .i64 0, .int .i64 0] := Blk.ext (Blk.ext (blk_drew blk_new1) HE6.out) HE7.out; obtain ⟨ka5, kc5⟩ := blk2 kb5; have kf5 := kb5.frozen 0; have kg5 := kb5.frozen 1; have kl5 := kb5.lt; clear kb5) | (have kb5 : Blk 38 w7 (wz.heap.size + 1) [.int .i64 0, .int .i64 0] := Blk.ext (blk_old (Blk.ext (blk_drew blk_new1) HE6.out)) HE7.out; obtain ⟨ka5, kc5⟩ := blk2 kb5; have kf5 := kb5.frozen 0; have kg5 := kb5.frozen 1; have kl5 := kb5.lt; clear kb5) | (have kb5 : Blk 38 w7 (wz.heap.size + 1) [.int .i64 0, .int .i64 0] := Blk.ext (blk_skip (Blk.ext (blk_drew blk_new1) HE6.out) (Nat.succ_ne_self _)) HE7.out; obtain ⟨ka5, kc5⟩ := blk2 kb5; have kf5 := kb5.frozen 0; have kg5 := kb5.frozen 1; have kl5 := kb5.lt; clear kb5) | (have kb5 : Blk 38 w7 (wz.heap.size + 1) [.int .i64 0, .int .i64 0] := Blk.ext (blk_old (blk_skip (Blk.ext (blk_drew blk_new1) HE6.out) (Nat.succ_ne_self _))) HE7.out; obtain ⟨ka5, kc5⟩ := blk2 kb5; have kf5 := kb5.frozen 0; have kg5 := kb5.frozen 1; have kl5 := kb5.lt; clear kb5) | skip); (first | (have kb6 : Blk 38 w7 (w6.heap.size) [.int .i64 0, .int .i64 0] := Blk.ext (blk_new) HE7.out; obtain ⟨ka6, kc6⟩ := blk2 kb6; have kf6 := kb6.frozen 0; have kg6 := kb6.frozen 1; have kl6 := kb6.lt; clear kb6) | (have kb6 : Blk 38 w7 (w6.heap.size) [.int .i64 0, .int .i64 0] := Blk.ext (blk_old blk_new) HE7.out; obtain ⟨ka6, kc6⟩ := blk2 kb6; have kf6 := kb6.frozen 0; have kg6 := kb6.frozen 1; have kl6 := kb6.lt; clear kb6) | (have kb6 : Blk 38 w7 (w6.heap.size) [.int .i64 0, .int .i64 0] := Blk.ext (blk_new_set) HE7.out; obtain ⟨ka6, kc6⟩ := blk2 kb6; have kf6 := kb6.frozen 0; have kg6 := kb6.frozen 1; have kl6 := kb6.lt; clear kb6) | skip); (first | (have kb7 : Blk 38 w7 (w6.heap.size + 1) [.int .i64 0, .int .i64 0] := Blk.ext (blk_new1) HE7.out; obtain ⟨ka7, kc7⟩ := blk2 kb7; have kf7 := kb7.frozen 0; have kg7 := kb7.frozen 1; have kl7 := kb7.lt; clear kb7) | skip))
          | fail)
      all_goals
        go_wp2_with fail
        go_meet
      all_goals refine ⟨_, _, rfl, rfl, ?_, ?_, ?_⟩
      all_goals (repeat (first | (with_reducible exact blk_new) | (with_reducible exact blk_new1) | (with_reducible exact blk_new_set) | (with_reducible apply blk_pair) | (with_reducible refine blk_skip ?_ (by omega)) | (with_reducible refine blk_old ?_) | (with_reducible refine blk_drew ?_) | (with_reducible refine Blk.ext ?_ HE6.out) | (with_reducible refine Blk.ext ?_ HE7.out) | (with_reducible exact HX6.out) | (with_reducible exact HX7.out) | (with_reducible exact Ext.refl _) | (with_reducible refine ext_alloc ?_) | (with_reducible refine ext_drew ?_) | (with_reducible refine ext_pair ?_ (by omega))))
    case rest =>
      obtain ⟨sb, tb, hpa, hpb, hBs, hBu, hxc⟩ := hcut
      subst hpa hpb
      obtain ⟨wy, rfl⟩ : ∃ wy : World, wy = wc := ⟨_, rfl⟩
      have HXy := Lib.hid (HXz.out.trans hxc)
      have HQy := Lib.hid (HQz.out.ext hxc); have HTy := Lib.hid (HTz.out.ext hxc); have HGy3 := Lib.hid (HGz3.out.ext hxc); have HGy4 := Lib.hid (HGz4.out.ext hxc)
      obtain ⟨s0, s1⟩ := blk2 hBs
      obtain ⟨s2, s3⟩ := blk2 hBu
      clear c0 c1 c2 c3 c4 c5 c6 d0 d1 d2 d3 d4 d5 d6 t0 a0 a1 e0 e1 e2 e3 hBs hBu hxc hw1 hj3 hq0 hq1 hq2 hnN hnp
      obtain ⟨bc2, oc2, hAC2, e0, e1⟩ := (HC2.out.ext HXy.out).g (k := KN) (by rw [HLC2.out]; exact hKN)
      subst hAC2
      have hmod2 : (KN + 1) % bnC < bnC := Nat.mod_lt _ (by omega)
      obtain ⟨e2, e3⟩ := (HC2.out.ext HXy.out).at1 (k := (KN + 1) % bnC) (by rw [HLC2.out]; exact hmod2)
      obtain ⟨C0, hC0⟩ : ∃ P, P = gS bcs KN := ⟨_, rfl⟩
      obtain ⟨C1, hC1⟩ : ∃ P, P = gS bcs ((KN + 1) % bnC) := ⟨_, rfl⟩
      rw [← hC0] at e0 e1
      rw [← hC1] at e2 e3
      have HC0 := Lib.hid hC0; have HC1' := Lib.hid hC1; clear hC0 hC1
      have d4 := HQy.out.cell 4
      have t1 := HTy.out.cell 1
      simp only [List.getElem?_cons_succ, List.getElem?_cons_zero] at d4 t1
      have hw2 : IntKind.i64.wrap ((KN : Int) + 1) = (KN : Int) + 1 := IntWalk.i64_in _ (by omega)
      have hnN : ((bnC : Int) == 0) = false := by simp; omega
      have hnp : 0 < bnC := by omega
      have hnN' : ¬ bnC = 0 := by omega
      obtain ⟨hq0, hq1, hq2⟩ := mod_idx KN bnC 1 1 rfl (by omega)
      have hj3 : ((KN : Int) + 1).tmod bnC = (((KN + 1) % bnC : Nat) : Int) := by rw [Int.tmod_eq_emod_of_nonneg (by omega)]; omega
      go_upto_region 11 with fail
      by_cases w1e : S1 = C0
      rotate_left
      · have hb1 : eqS S1.1 S1.2 C0.1 C0.2 = false := by rw [eqS_dec]; exact decide_eq_false w1e
        clear w1e
        go_quiet (fail)
        go_wp2_with fail
        refine (alive_any _).mono ?_
        rintro e w8 ⟨rfl, he8⟩
        go_wp2_with fail
        go_ret
        exact ⟨rfl, (HXy.out.drewN _).trans he8⟩
      have hb1 : eqS S1.1 S1.2 C0.1 C0.2 = true := by rw [eqS_dec]; exact decide_eq_true w1e
      by_cases w2e : S2 = C1
      rotate_left
      · have hb2 : eqS S2.1 S2.2 C1.1 C1.2 = false := by rw [eqS_dec]; exact decide_eq_false w2e
        clear w1e w2e
        go_quiet (fail)
        go_wp2_with fail
        refine (alive_any _).mono ?_
        rintro e w8 ⟨rfl, he8⟩
        go_wp2_with fail
        go_ret
        exact ⟨rfl, (HXy.out.drewN _).trans he8⟩
      have hb2 : eqS S2.1 S2.2 C1.1 C1.2 = true := by rw [eqS_dec]; exact decide_eq_true w2e
      have HPLAIN := Lib.hid (grades_plain HGO1.out HGO2.out HIl.out HKl.out (by rw [← HLA.out, ← HLB.out]; exact HLEN.out) (by rw [← HLA.out, ← HLB.out]; exact HCG.out)
        (by rw [← HLA.out, ← HLB.out, ← HF.out, ← HQ.out, ← HP0'.out, ← HS1.out, ← HC0.out]; exact w1e)
        (by rw [← HLA.out, ← HLB.out, ← HF.out, ← HQ.out, HLE1.out, HLE2.out, ← HP1'.out, ← HS2.out, ← HC1'.out]; exact w2e))
      clear w1e w2e
      go_quiet (fail)
      go_upto_region 13 with fail
      refine wp_at fun wv hWv => ?_
      have hxv : Ext wy wv := by rw [hWv]; exact (Ext.refl _).drewN _
      clear hWv
      have HXv := Lib.hid (HXy.out.trans hxv); have HTv := Lib.hid (HTy.out.ext hxv); have HGv3 := Lib.hid (HGy3.out.ext hxv); have HGv4 := Lib.hid (HGy4.out.ext hxv)
      clear hxv s0 s1 s2 s3 e0 e1 e2 e3 d4 t1 hw2 hnN hnN' hnp hq0 hq1 hq2 hj3 hb1 hb2
      obtain ⟨bg1, og1, G1, cG1, hA3, _, f1, hSG1, _, _⟩ := HGv3.out.g (k := IN) (by rw [gradedE_len]; exact HIl.out)
      subst hA3
      obtain ⟨bg2, og2, G2, cG2, hA4, _, f2, hSG2, _, _⟩ := HGv4.out.g (k := KN) (by rw [gradedE_len]; exact HKl.out)
      subst hA4
      have hlc1 := graded_lines HR1.out.symm HIl.out
      have hlc2 := graded_lines HR2.out.symm HKl.out
      have hpl := HPLAIN.out
      obtain ⟨ga, hga⟩ : ∃ l, l = (gE (gradedE aes acs M) IN).2 := ⟨_, rfl⟩
      obtain ⟨gb, hgb⟩ : ∃ l, l = (gE (gradedE bes bcs M) KN).2 := ⟨_, rfl⟩
      rw [← hga] at f1 hSG1 hlc1
      rw [← hgb] at f2 hSG2 hlc2
      rw [← hga, ← hgb] at hpl
      clear hga hgb HPLAIN
      obtain ⟨p1, p2, p3⟩ := hpl
      obtain ⟨l2, l40, _⟩ := lcheck_zero hlc1
      obtain ⟨r1, hr1⟩ : ∃ m, m = ga.length := ⟨_, rfl⟩
      obtain ⟨r2, hr2⟩ : ∃ m, m = gb.length := ⟨_, rfl⟩
      rw [← hr1] at f1
      rw [← hr2] at f2
      have HCC : Hid (∃ (F' : Bool) (Q' D1' D2' : Int), ∀ W, Ext wv W → Calls Try.prog 7 #[.slice G1 r1 cG1, .slice G2 r2 cG2] W fun e w' => e = .returned (.tuple #[.agg #[.bool F', .int .i64 Q'], .agg #[.int .i64 D1', .int .i64 D2'], .bool true]) ∧ Ext W w') := by
        show ∃ _, _
        refine ⟨cgF (cgN ga gb), cgQ (cgN ga gb), (cgD ga gb (cgN ga gb)).1, (cgD ga gb (cgN ga gb)).2, fun W h => ?_⟩
        have := congruent_any G1 G2 r1 r2 cG1 cG2 ga gb W (hSG1.ext h) (hSG2.ext h) hr1.symm hr2.symm (by omega)
        exact this.mono fun e w' ⟨he, hx⟩ => ⟨by rw [he, if_pos ⟨p1, by omega, p2⟩], hx⟩
      have HLN1 : Hid (∀ W, Ext wv W → Calls Try.prog 9 #[.slice G1 r1 cG1] W fun e w' => e = .returned (.tuple #[.int .i64 (lengthN ga : Int), .int .i64 0]) ∧ Ext W w') := fun W h => by
        have := length_any G1 r1 cG1 ga W (hSG1.ext h) hr1.symm
        rwa [hlc1] at this
      have HLN2 : Hid (∀ W, Ext wv W → Calls Try.prog 9 #[.slice G2 r2 cG2] W fun e w' => e = .returned (.tuple #[.int .i64 (lengthN ga : Int), .int .i64 0]) ∧ Ext W w') := fun W h => by
        have := length_any G2 r2 cG2 gb W (hSG2.ext h) hr2.symm
        rwa [hlc2, ← p3] at this
      clear hSG1 hSG2 hlc1 hlc2 p1 p2 p3 l2 l40 hr1 hr2
      obtain ⟨F', Q', D1', D2', hCC⟩ := HCC.out
      have HCC' := Lib.hid hCC; clear hCC HCC
      generalize lengthN ga = LG at HLN1 HLN2
      have t0 := HTv.out.cell 0
      have t1 := HTv.out.cell 1
      simp only [List.getElem?_cons_succ, List.getElem?_cons_zero] at t0 t1
      go_cut [16, 17, 18] from 174 to 190 (fun pa pb' ok wc => ∃ ub vb, pa = .pointer (some ⟨ub, 0, none⟩) ∧ pb' = .pointer (some ⟨vb, 0, none⟩) ∧ ok = .bool true ∧ Ext wv wc)
      case first =>
        have keep : ∀ W : World, Ext wv W → (Ext wv W ∧ W.cell? ⟨xb, 0, none⟩ = some (.int .i64 (IN : Int)) ∧ W.cell? ⟨bg1, og1 + IN * 2 + 1, none⟩ = some (.slice G1 r1 cG1) ∧ W.cell? ⟨xb, 1, none⟩ = some (.int .i64 (KN : Int)) ∧ W.cell? ⟨bg2, og2 + KN * 2 + 1, none⟩ = some (.slice G2 r2 cG2)) := fun W hx => ⟨hx, hx.cell t0, hx.cell f1, hx.cell t1, hx.cell f2⟩
        have KEEP := Lib.hid keep; clear keep t0 t1 f1 f2
        go_region_held3 (fun W => Ext wv W ∧ W.cell? ⟨xb, 0, none⟩ = some (.int .i64 (IN : Int)) ∧ W.cell? ⟨bg1, og1 + IN * 2 + 1, none⟩ = some (.slice G1 r1 cG1) ∧ W.cell? ⟨xb, 1, none⟩ = some (.int .i64 (KN : Int)) ∧ W.cell? ⟨bg2, og2 + KN * 2 + 1, none⟩ = some (.slice G2 r2 cG2))
          (first | (with_reducible assumption) | (with_reducible exact KEEP.out _ HX5.out) | exact KEEP.out _ (by (repeat (first | (with_reducible exact Ext.refl _) | (with_reducible exact HX5.out) | (with_reducible refine ext_drew ?_) | (with_reducible refine ext_alloc ?_) | (with_reducible refine ext_pair ?_ (by omega))))) | fail)
          (first
            | (go_at_call 7; (with_reducible refine (HCC'.out _ (by (repeat (first | (with_reducible exact Ext.refl _) | (with_reducible exact HX5.out) | (with_reducible refine ext_drew ?_) | (with_reducible refine ext_alloc ?_) | (with_reducible refine ext_pair ?_ (by omega)))))).mono ?_); rintro e w5 ⟨rfl, he5⟩; have HX5 : Hid (Ext wv w5) := Ext.trans (by (repeat (first | (with_reducible exact Ext.refl _) | (with_reducible exact HX5.out) | (with_reducible refine ext_drew ?_) | (with_reducible refine ext_alloc ?_) | (with_reducible refine ext_pair ?_ (by omega))))) he5; have hz5 : wv.heap.size ≤ w5.heap.size := HX5.out.size; have HE5 := Lib.hid he5; clear he5; (first | (have kb0 : Blk 36 w5 (wv.heap.size) [.bool false, .int .i64 0] := Blk.ext (blk_drew blk_new) HE5.out; obtain ⟨ka0, kc0⟩ := blk2 kb0; have kf0 := kb0.frozen 0; have kg0 := kb0.frozen 1; have kl0 := kb0.lt; clear kb0) | (have kb0 : Blk 36 w5 (wv.heap.size) [.bool false, .int .i64 0] := Blk.ext (blk_drew (blk_old blk_new)) HE5.out; obtain ⟨ka0, kc0⟩ := blk2 kb0; have kf0 := kb0.frozen 0; have kg0 := kb0.frozen 1; have kl0 := kb0.lt; clear kb0) | skip); (first | (have kb1 : Blk 38 w5 (wv.heap.size) [.int .i64 0, .int .i64 0] := Blk.ext (blk_drew blk_new) HE5.out; obtain ⟨ka1, kc1⟩ := blk2 kb1; have kf1 := kb1.frozen 0; have kg1 := kb1.frozen 1; have kl1 := kb1.lt; clear kb1) | (have kb1 : Blk 38 w5 (wv.heap.size) [.int .i64 0, .int .i64 0] := Blk.ext (blk_drew (blk_old blk_new)) HE5.out; obtain ⟨ka1, kc1⟩ := blk2 kb1; have kf1 := kb1.frozen 0; have kg1 := kb1.frozen 1; have kl1 := kb1.lt; clear kb1) | skip); (first | (have kb2 : Blk 36 w5 (wv.heap.size + 1) [.bool false, .int .i64 0] := Blk.ext (blk_drew blk_new1) HE5.out; obtain ⟨ka2, kc2⟩ := blk2 kb2; have kf2 := kb2.frozen 0; have kg2 := kb2.frozen 1; have kl2 := kb2.lt; clear kb2) | skip); (first | (have kb3 : Blk 38 w5 (wv.heap.size + 1) [.int .i64 0, .int .i64 0] := Blk.ext (blk_drew blk_new1) HE5.out; obtain ⟨ka3, kc3⟩ := blk2 kb3; have kf3 := kb3.frozen 0; have kg3 := kb3.frozen 1; have kl3 := kb3.lt; clear kb3) | skip))
            | fail)
        all_goals
          go_wp2_with fail
          go_meet
        all_goals refine ⟨_, _, rfl, rfl, rfl, ?_⟩
        all_goals (repeat (first | (with_reducible exact HX5.out) | (with_reducible exact Ext.refl _) | (with_reducible refine ext_alloc ?_) | (with_reducible refine ext_drew ?_) | (with_reducible refine ext_pair ?_ (by omega))))
      case rest =>
        obtain ⟨ub, vb, hpa, hpb, hok, hxc⟩ := hcut
        subst hpa hpb hok
        obtain ⟨wu, rfl⟩ : ∃ wu : World, wu = wc := ⟨_, rfl⟩
        have t0' := hxc.cell t0; have t1' := hxc.cell t1; have f1' := hxc.cell f1; have f2' := hxc.cell f2
        have HXu := Lib.hid hxc
        clear t0 t1 f1 f2 hxc
        go_wp2_with fail
        refine (HLN1.out _ HXu.out).mono ?_
        rintro e w8 ⟨rfl, he8⟩
        have t1'' := he8.cell t1'; have f2'' := he8.cell f2'
        have HX8 := Lib.hid (HXu.out.trans he8)
        clear t0' t1' f1' f2' he8
        go_wp2_with fail
        refine (HLN2.out _ HX8.out).mono ?_
        rintro e w9 ⟨rfl, he9⟩
        have HX9 := Lib.hid (HX8.out.trans he9)
        clear t1'' f2'' he9
        have s1 : ((LG : Int) == LG) = true := by simp
        go_wp2_with fail
        refine (alive_any _).mono ?_
        rintro e w10 ⟨rfl, he10⟩
        go_wp2_with fail
        go_ret
        exact ⟨rfl, (HXv.out.trans HX9.out).trans he10⟩
end Go.Proofs.Ytnfchkkokgmliaa
