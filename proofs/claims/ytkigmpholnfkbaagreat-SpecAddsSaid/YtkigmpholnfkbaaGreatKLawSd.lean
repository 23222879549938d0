/- the law SpecAdds, walked -/
import Derived.Test.YtkigmpholnfkbaaGreatKLawSw
import Derived.Test.YtkigmpholnfkbaaGreatKSdW
import Derived.Test.YtkigmpholnfkbaaGreatKOpenC
namespace Go.Proofs.YtkigmpholnfkbaaGreat
open Go.RowKit
set_option maxRecDepth 100000 in
set_option maxHeartbeats 6400000 in
theorem addsL_any (a : StyA) (x : StyX) (q : PomA) (p : PomX) (z : Int) (w : World) (hs : StyXAt w a x) (hp : PomAt w q p) (hcP : q.nP ≤ q.cP) (hcP' : q.cP ≤ 9223372036854775807) (hcE : q.nE ≤ q.cE) (hcE' : q.cE ≤ 9223372036854775807) :
    Calls Tryz.prog 7 #[a.val, q.val, .int .i64 z] w fun e w' => e = .returned (.bool true) ∧ Ext w w' := by
  have HSM := Lib.hid (fun W g (h : Ext w W) (hb : Blk 36 W g (PomA.cells q)) => small_any a x (some ⟨g, 0, none⟩) 1 1 [p] W (hs.ext h) (poms_one hb (hp.ext h)) rfl (by omega))
  have HTA := Lib.hid (fun (hlt : LtX x) q' p' W (h : Ext w W) (hq : PomAt W q' p') => targX_any a x q' p' z W (hs.ext h) hlt.n hlt.zz hq)
  have HP := Lib.hid hp
  clear hs hp
  obtain ⟨nm, AS, nS, cS, AM, nM, cM, AP, nP, cP, AU, nU, cU, AK, nK, cK, AO, nO, cO⟩ := a
  obtain ⟨pn, pAP, pnP, pcP, pAE, pnE, pcE, ppl, pmi⟩ := q
  simp only [StyA.val, PomA.val, PomA.cells] at HSM HTA hcP hcP' hcE hcE' ⊢
  go_enter Tryz.func7, Tryz.ntmps7
  go_wp2_with fail
  refine (HSM.out _ (w.heap.size + 1 + 1) ((((Ext.refl _).alloc _).alloc _).alloc _) (Blk.new' (by simp))).mono ?_
  rintro e w1 ⟨b, rfl, he1, hb⟩
  have HB1 : Hid (Blk 29 w1 w.heap.size [.string nm, .slice AS nS cS, .slice AM nM cM, .slice AP nP cP, .slice AU nU cU, .slice AK nK cK, .slice AO nO cO]) := (((Blk.new' rfl).ext ((Ext.refl _).alloc _)).ext ((Ext.refl _).alloc _)).ext he1
  have HN1 : Hid (Blk 36 w1 (w.heap.size + 1) [.string pn, .slice pAP pnP pcP, .slice pAE pnE pcE, .int .i64 ppl, .int .i64 pmi]) := ((Blk.new' (by simp)).ext ((Ext.refl _).alloc _)).ext he1
  have HX1 : Hid (Ext w w1) := ((((Ext.refl _).alloc _).alloc _).alloc _).trans he1
  have HB := Lib.hid hb
  clear he1 hb HSM
  cases b
  · go_wp2_with fail
    refine (awake_any _).mono ?_
    rintro e w2 ⟨rfl, he2⟩
    go_wp2_with fail
    go_ret
    exact ⟨rfl, HX1.out.trans he2⟩
  obtain ⟨hlt, hfw⟩ := HB.out rfl
  have HT := Lib.hid (HTA.out hlt)
  clear HTA hlt hfw HB
  obtain ⟨c0, c1, c2, c3, c4, c5, c6⟩ := blk7 HB1.out
  obtain ⟨a0, a1, a2, a3, a4⟩ := blk5 HN1.out
  go_wp2_with fail
  refine (HT.out ⟨pn, pAP, pnP, pcP, pAE, pnE, pcE, ppl, pmi⟩ p _ HX1.out (HP.out.ext HX1.out)).mono ?_
  rintro e w2 ⟨rfl, he2⟩
  have HX2 := Lib.hid (HX1.out.trans he2)
  have HB2 := Lib.hid (HB1.out.ext he2)
  have HN2 := Lib.hid (HN1.out.ext he2)
  clear he2 a0 a1 a2 a3 a4 c0 c1 c2 c3 c4 c5 c6 HB1 HN1
  have HTZ := Lib.hid (@targE_zero x p z)
  have HT0 : Hid (targE x p z ≠ 0 → targV x p z = 0) := fun h => by unfold targV; rw [if_pos h]
  have HTV : Hid (targE x p z = 0 → targV x p z = (tgTo x p (gI x.ms z.toNat) p.ps.length : Int)) := fun h => by unfold targV; rw [if_neg (fun h' => h' h)]
  have HON := Lib.hid (fun h i hi => @one_targ x p z h i hi)
  have HBA := Lib.hid (@back_targ x p z)
  obtain ⟨TE, hTE⟩ : ∃ y, y = targE x p z := ⟨_, rfl⟩
  obtain ⟨TV, hTV⟩ : ∃ y, y = targV x p z := ⟨_, rfl⟩
  rw [← hTE] at HTZ HT0 HTV HON HBA ⊢
  rw [← hTV] at HT0 HTV HBA ⊢
  clear hTE hTV
  by_cases hz : TE = 0
  rotate_left
  · have HV : TV = 0 := HT0.out hz
    subst HV
    have hzb : (TE != 0) = true := by simp [hz]
    clear hz
    go_wp2_with fail
    refine (awake_any _).mono ?_
    rintro e w3 ⟨rfl, he3⟩
    go_wp2_with fail
    go_ret
    exact ⟨rfl, HX2.out.trans he3⟩
  have HOK := Lib.hid (spcE_one.1 (HTZ.out.1 hz).1).2
  have HQP : Hid (p.ps.length = pnP) := HP.out.lP
  have HQE : Hid (p.es.length = pnE) := HP.out.lE
  obtain rfl : pnP = pnE := by have := HOK.out.le; have := HQP.out; have := HQE.out; omega
  have hn16 : pnP ≤ 16 := by have := HOK.out.n1; have := HQP.out; omega
  have HT1 := Lib.hid (HTV.out hz)
  have HON1 := Lib.hid (HON.out hz)
  have HBA1 := Lib.hid (HBA.out hz)
  subst hz
  clear HTZ HT0 HTV HON HBA
  obtain ⟨a0, a1, a2, a3, a4⟩ := blk5 HN2.out
  go_upto_region 11 with fail
  refine wp_at fun w3 hw3 => ?_
  have HK3 : Hid (Blk 36 w3 w2.heap.size [.string pn, .slice none 0 0, .slice none 0 0, .int .i64 ppl, .int .i64 pmi]) := by show Blk _ _ _ _; rw [hw3]; exact Blk.new' rfl
  have HX3 : Hid (Ext w2 w3) := by show Ext _ _; rw [hw3]; exact (Ext.refl _).alloc _
  have HB3 := Lib.hid (HB2.out.ext HX3.out)
  have HN3 := Lib.hid (HN2.out.ext HX3.out)
  have HG3 : Hid (w.heap.size + 1 < w2.heap.size) := HN2.out.lt
  obtain ⟨B, hB⟩ : ∃ B, B = w2.heap.size := ⟨_, rfl⟩
  rw [← hB] at HK3 HG3 ⊢
  clear hw3 hB a0 a1 a2 a3 a4 HB2 HN2
  obtain ⟨a0, a1, a2, a3, a4⟩ := blk5 HN3.out
  go_wp2_with fail
  clear a0 a1 a2 a3 a4
  go_loopw [9, 11] (fun s i wr => ∃ (m : Nat) (S : Nat) (vP vE : Value), m ≤ pnP ∧ i = .int .i64 ((m : Int) - 1) ∧ s = .int .i64 (S : Int) ∧ S + tgTo x p (gI x.ms z.toNat) m = tgTo x p (gI x.ms z.toNat) pnP ∧
    OwnI wr (B + 1) vP ((p.ps.reverse).take (pnP - m)) ∧ OwnI wr (B + 1) vE ((p.es.reverse).take (pnP - m)) ∧ (∀ g, vP.ownBlock = some g → vE.ownBlock ≠ some g) ∧
    Blk 36 wr B [.string pn, vP, vE, .int .i64 ppl, .int .i64 pmi] ∧ Blk 29 wr w.heap.size [.string nm, .slice AS nS cS, .slice AM nM cM, .slice AP nP cP, .slice AU nU cU, .slice AK nK cK, .slice AO nO cO] ∧
    Blk 36 wr (w.heap.size + 1) [.string pn, .slice pAP pnP pcP, .slice pAE pnP pcE, .int .i64 ppl, .int .i64 pmi] ∧ B < wr.heap.size ∧ Ext w wr) (fun _ i _ => ((intOf i) + 1).toNat)
  case atStart =>
    refine ⟨pnP, 0, .slice none 0 0, .slice none 0 0, Nat.le_refl _, rfl, rfl, by simp, ?_, ?_, (fun g h => by cases h), HK3.out, HB3.out, HN3.out, HK3.out.lt, HX2.out.trans HX3.out⟩
    · rw [Nat.sub_self]; exact OwnI.nil _ _
    · rw [Nat.sub_self]; exact OwnI.nil _ _
  case round =>
    obtain ⟨m, S, vP, vE, hm, rfl, rfl, hS, hoP, hoE, hne, hbb, hbs, hbn, hlt, hx⟩ := hrel
    have HS := Lib.hid hS; have HOP := Lib.hid hoP; have HOE := Lib.hid hoE; have HNE := Lib.hid hne; have HBB := Lib.hid hbb; have HBS := Lib.hid hbs; have HBN := Lib.hid hbn; have HBL := Lib.hid hlt; have HX := Lib.hid hx
    clear hS hoP hoE hne hbb hbs hbn hlt hx
    by_cases hm0 : m = 0
    · subst hm0
      obtain ⟨A1, k1, hv1, hI1, hk1, hk1'⟩ := OwnI.slice HOP.out
      obtain ⟨A2, k2, hv2, hI2, hk2, hk2'⟩ := OwnI.slice HOE.out
      subst hv1; subst hv2
      have HRP : Hid ((p.ps.reverse).take (pnP - 0) = p.ps.reverse) := by show _ = _; rw [← HQP.out]; exact rev_all _
      have HRE : Hid ((p.es.reverse).take (pnP - 0) = p.es.reverse) := by show _ = _; rw [← HQE.out]; exact rev_all _
      rw [HRP.out] at hI1 hk1 
      rw [HRE.out] at hI2 hk2
      have hbb := HBB.out
      rw [HRP.out, HRE.out] at hbb
      obtain ⟨L1, hL1⟩ : ∃ L1, L1 = p.ps.reverse.length := ⟨_, rfl⟩
      obtain ⟨L2, hL2⟩ : ∃ L2, L2 = p.es.reverse.length := ⟨_, rfl⟩
      rw [← hL1] at hbb hk1
      rw [← hL2] at hbb hk2
      have HPA : Hid (PomAt wr ⟨pn, A1, L1, k1, A2, L2, k2, ppl, pmi⟩ (backP p)) := ⟨HP.out.nm, hI1, hL1.symm, hI2, hL2.symm, HP.out.pl, HP.out.mi, Nat.le_trans hk1 hk1', Nat.le_trans hk2 hk2'⟩
      have HCB := Lib.hid (HT.out ⟨pn, A1, L1, k1, A2, L2, k2, ppl, pmi⟩ (backP p) wr HX.out HPA.out)
      obtain ⟨hb1, hb2⟩ := HBA1.out
      rw [hb1, hb2] at HCB
      have HST : Hid (TV = (S : Int)) := by show _ = _; rw [HT1.out, HQP.out, ← HS.out]; rfl
      rw [HST.out] at HCB
      clear hI1 hI2 hk1 hk1' hk2 hk2' hL1 hL2 hb1 hb2
      obtain ⟨b0, b1, b2, b3, b4⟩ := blk5 hbb
      obtain ⟨c0, c1, c2, c3, c4, c5, c6⟩ := blk7 HBS.out
      have hss : ((S : Int) == (S : Int)) = true := by simp
      have hTV := HST.out
      subst hTV
      go_wp2_with fail
      refine (HCB.out).mono ?_
      rintro e w4 ⟨rfl, he4⟩
      have HX4 := Lib.hid (HX.out.trans he4); clear he4
      go_wp2_with fail
      refine (awake_any _).mono ?_
      rintro e w5 ⟨rfl, he5⟩
      go_wp2_with fail
      go_ret
      exact ⟨rfl, HX4.out.trans he5⟩
    obtain ⟨k, rfl⟩ : ∃ k, m = k + 1 := ⟨m - 1, by omega⟩
    have hk : k < pnP := by omega
    have HI : Hid (((k + 1 : Nat) : Int) - 1 = (k : Int)) := by show _ = _; omega
    rw [HI.out]
    clear hm0
    obtain ⟨a0, a1, a2, a3, a4⟩ := blk5 HBN.out
    go_upto_region 15 with fail
    refine wp_at fun w4 hw4 => ?_
    have HO4 : Hid (Blk 36 w4 wr.heap.size [.string pn, .slice pAP pnP pcP, .slice pAE pnP pcE, .int .i64 ppl, .int .i64 pmi]) := by show Blk _ _ _ _; rw [hw4]; exact Blk.new' rfl
    have HX4 : Hid (Ext wr w4) := by show Ext _ _; rw [hw4]; exact (Ext.refl _).alloc _
    obtain ⟨O, hO⟩ : ∃ O, O = wr.heap.size := ⟨_, rfl⟩
    have HOL : Hid (wr.heap.size ≤ O) := Nat.le_of_eq hO.symm
    rw [← hO] at HO4 ⊢
    clear hw4 hO a0 a1 a2 a3 a4
    obtain ⟨bi, oi, hAI, i0⟩ := HP.out.P.g (k := k) (by rw [HQP.out]; exact hk)
    obtain ⟨be, oe, hAE, e0⟩ := HP.out.E.g (k := k) (by rw [HQE.out]; exact hk)
    simp only at hAI hAE
    subst hAI; subst hAE
    have HBI : Hid (bi < w.heap.size) := cell_lt i0
    have HBE : Hid (be < w.heap.size) := cell_lt e0
    replace i0 := HX.out.cell i0
    replace e0 := HX.out.cell e0
    have HI0 := Lib.hid i0; have HE0 := Lib.hid e0
    clear i0 e0
    obtain ⟨a0, a1, a2, a3, a4⟩ := blk5 HBN.out
    have keep : ∀ W1 : World, Ext wr W1 → (Ext wr W1 ∧ W1.cell? ⟨w.heap.size + 1, 1, none⟩ = some (.slice (some ⟨bi, oi, none⟩) pnP pcP) ∧ W1.cell? ⟨w.heap.size + 1, 2, none⟩ = some (.slice (some ⟨be, oe, none⟩) pnP pcE)) := fun W1 hx => ⟨hx, hx.cell a1, hx.cell a2⟩
    have KEEP := Lib.hid keep; clear keep
    obtain ⟨o0, o1, o2, o3, o4⟩ := blk5 HO4.out
    have f1 := HO4.out.frozen 1; have f2 := HO4.out.frozen 2
    have hk1 : (k : Int) + 1 ≤ pcP := by omega
    have hk2 : (k : Int) + 1 ≤ pcE := by omega
    have hk3 : k + 1 ≤ pcP := by omega
    have hk4 : k + 1 ≤ pcE := by omega
    have hk0 : (0 : Int) ≤ k := by omega
    have hw1 : IntKind.i64.wrap ((k : Int) + 1) = (k : Int) + 1 := IntWalk.i64_in _ (by omega)
    have hk5 : (k : Int) ≤ (k : Int) + 1 := by omega
    have hk6 : ((k : Int) + 1).toNat = k + 1 := by omega
    have hk7 : k + 1 - k = 1 := by omega
    have hk8 : (0 : Int) ≤ (k : Int) + 1 := by omega
    have hk9 : ¬ pcP = k := by omega
    have hk10 : ¬ pcE = k := by omega
    clear a0 a1 a2 a3 a4
    go_region_held3 (fun W => Ext wr W ∧ W.cell? ⟨w.heap.size + 1, 1, none⟩ = some (.slice (some ⟨bi, oi, none⟩) pnP pcP) ∧ W.cell? ⟨w.heap.size + 1, 2, none⟩ = some (.slice (some ⟨be, oe, none⟩) pnP pcE))
      (first | (with_reducible assumption) | (with_reducible exact KEEP.out _ (Ext.drew HX4.out)) | (with_reducible exact KEEP.out _ (Ext.drew (Ext.setCell (p := ⟨O, 1, none⟩) HX4.out HOL.out _))) | (with_reducible exact KEEP.out _ (Ext.drew (Ext.setCell (p := ⟨O, 2, none⟩) (Ext.setCell (p := ⟨O, 1, none⟩) HX4.out HOL.out _) HOL.out _))) | fail)
      (fail)
    obtain ⟨w5, hw5⟩ : ∃ w5, w5 = ((w4.setCell ⟨O, 1, none⟩ (Value.slice (some ⟨bi, oi + k, none⟩) 1 (pcP - k))).setCell ⟨O, 2, none⟩ (Value.slice (some ⟨be, oe + k, none⟩) 1 (pcE - k))).drew := ⟨_, rfl⟩
    rw [← hw5]
    have HO5 : Hid (Blk 36 w5 O [.string pn, .slice (some ⟨bi, oi + k, none⟩) 1 (pcP - k), .slice (some ⟨be, oe + k, none⟩) 1 (pcE - k), .int .i64 ppl, .int .i64 pmi]) := by
      show Blk _ _ _ _
      rw [hw5]
      exact (((HO4.out.set 1 _).set 2 _).ext (Ext.refl _).drew)
    have HX5 : Hid (Ext wr w5) := by
      show Ext _ _
      rw [hw5]
      exact Ext.drew (Ext.setCell (p := ⟨O, 2, none⟩) (Ext.setCell (p := ⟨O, 1, none⟩) HX4.out HOL.out _) HOL.out _)
    have HPO : Hid (PomAt w5 ⟨pn, some ⟨bi, oi + k, none⟩, 1, pcP - k, some ⟨be, oe + k, none⟩, 1, pcE - k, ppl, pmi⟩ (oneP p k)) := by
      refine ⟨HP.out.nm, fun j hj => ?_, rfl, fun j hj => ?_, rfl, HP.out.pl, HP.out.mi, Nat.le_of_ble_eq_true rfl, Nat.le_of_ble_eq_true rfl⟩
      · obtain rfl : j = 0 := by simpa [oneP] using hj
        exact ⟨bi, oi + k, rfl, HX5.out.cell HI0.out⟩
      · obtain rfl : j = 0 := by simpa [oneP] using hj
        exact ⟨be, oe + k, rfl, HX5.out.cell HE0.out⟩
    have HTO := Lib.hid (HT.out ⟨pn, some ⟨bi, oi + k, none⟩, 1, pcP - k, some ⟨be, oe + k, none⟩, 1, pcE - k, ppl, pmi⟩ (oneP p k) w5 (HX.out.trans HX5.out) HPO.out)
    obtain ⟨ho1, ho2⟩ := HON1.out k (by rw [HQP.out]; exact hk)
    rw [ho1, ho2] at HTO
    have hbd1 := tgTo_bd x p (gI x.ms z.toNat) pnP
    have hst : tgTo x p (gI x.ms z.toNat) (k + 1) = tgTo x p (gI x.ms z.toNat) k + tgN x p (gI x.ms z.toNat) k := rfl
    obtain ⟨G, hG⟩ : ∃ G, G = tgN x p (gI x.ms z.toNat) k := ⟨_, rfl⟩
    rw [← hG] at HTO hst
    have hS' := HS.out
    have hsum : wrap64 ((S : Int) + (G : Int)) = ((S + G : Nat) : Int) := by rw [w64 (by omega) (by omega)]; omega
    have HSG : Hid (S + G + tgTo x p (gI x.ms z.toNat) k = tgTo x p (gI x.ms z.toNat) pnP) := by show _ = _; omega
    have HBB5 := Lib.hid (HBB.out.ext HX5.out); have HBS5 := Lib.hid (HBS.out.ext HX5.out); have HBN5 := Lib.hid (HBN.out.ext HX5.out)
    have HOP5 := Lib.hid (OwnI.ext HOP.out HX5.out); have HOE5 := Lib.hid (OwnI.ext HOE.out HX5.out)
    have HX05 := Lib.hid (HX.out.trans HX5.out)
    have HCI := Lib.hid (HX5.out.cell HI0.out); have HCE := Lib.hid (HX5.out.cell HE0.out)
    clear hw5 ho1 ho2 hbd1 hst hS' hG o0 o1 o2 o3 o4 f1 f2 hk1 hk2 hk3 hk4 hk5 hk6 hk7 hk8 hk9 hk10 KEEP HO4 HX4 HOL HPO HI0 HE0 HBB HBS HBN HOP HOE HX5 HX
    obtain ⟨b0, b1, b2, b3, b4⟩ := blk5 HO5.out
    obtain ⟨c0, c1, c2, c3, c4, c5, c6⟩ := blk7 HBS5.out
    go_wp2_with fail
    refine (HTO.out).mono ?_
    rintro e w6 ⟨rfl, he6⟩
    have HX6 := Lib.hid he6
    clear he6 b0 b1 b2 b3 b4 c0 c1 c2 c3 c4 c5 c6 HO5 HTO
    go_upto_region 20 with fail
    obtain ⟨A1, c1, hv1, _⟩ := OwnI.slice HOP5.out
    obtain ⟨A2, c2, hv2, _⟩ := OwnI.slice HOE5.out
    subst hv1; subst hv2
    obtain ⟨LP, hLP⟩ : ∃ y, y = (p.ps.reverse).take (pnP - (k + 1)) := ⟨_, rfl⟩
    obtain ⟨LE, hLE⟩ : ∃ y, y = (p.es.reverse).take (pnP - (k + 1)) := ⟨_, rfl⟩
    have HLP : Hid ((p.ps.reverse).take (pnP - k) = LP ++ [gI p.ps k]) := by
      show _ = _
      have := rev_take (l := p.ps) (m := k) (by rw [HQP.out]; exact hk)
      rw [HQP.out] at this
      rw [this, hLP]
    have HLE : Hid ((p.es.reverse).take (pnP - k) = LE ++ [gI p.es k]) := by
      show _ = _
      have := rev_take (l := p.es) (m := k) (by rw [HQE.out]; exact hk)
      rw [HQE.out] at this
      rw [this, hLE]
    have hl1 : LP.length ≤ 16 := by rw [hLP, List.length_take]; omega
    have hl2 : LE.length ≤ 16 := by rw [hLE, List.length_take]; omega
    rw [← hLP, ← hLE] at HBB5 HNE
    rw [← hLP] at HOP5
    rw [← hLE] at HOE5
    clear hLP hLE
    obtain ⟨d, hd⟩ : ∃ d : Ad, d = ⟨w6, B, w.heap.size + 1, A1, c1, A2, c2, LP, LE, pn, ppl, pmi, .slice (some ⟨bi, oi, none⟩) pnP pcP, .slice (some ⟨be, oe, none⟩) pnP pcE, k, ⟨bi, oi + k, none⟩, ⟨be, oe + k, none⟩, gI p.ps k, gI p.es k⟩ := ⟨_, rfl⟩
    have HAD : Hid (AdOk d) := by
      show AdOk d
      rw [hd]
      exact ⟨HBB5.out.ext HX6.out, HBN5.out.ext HX6.out, OwnI.ext HOP5.out HX6.out, OwnI.ext HOE5.out HX6.out, HNE.out, HG3.out, by have := HG3.out; have := HBI.out; show bi < B; omega, by have := HG3.out; have := HBE.out; show be < B; omega, HX6.out.cell HCI.out, HX6.out.cell HCE.out⟩
    have hdW : d.W0 = w6 := by rw [hd]
    have hdB : d.B = B := by rw [hd]
    have hdP : d.P = w.heap.size + 1 := by rw [hd]
    have hsP : d.sP = .slice (some ⟨bi, oi, none⟩) pnP pcP := by rw [hd]
    have hsE : d.sE = .slice (some ⟨be, oe, none⟩) pnP pcE := by rw [hd]
    have hdk : d.k = k := by rw [hd]
    have haP : d.aP = ⟨bi, oi + d.k, none⟩ := by rw [hd]
    have haE : d.aE = ⟨be, oe + d.k, none⟩ := by rw [hd]
    have HDL : Hid (d.LP ++ [d.xp] = LP ++ [gI p.ps k] ∧ d.LE ++ [d.xe] = LE ++ [gI p.es k] ∧ d.pn = pn ∧ d.ppl = ppl ∧ d.pmi = pmi) := by rw [hd]; exact ⟨rfl, rfl, rfl, rfl, rfl⟩
    have HP63 : d.LP.length + 1 ≤ maxLen := by rw [hd]; show LP.length + 1 ≤ maxLen; unfold maxLen; omega
    have HP64 : (d.LP.length + 1) * 8 ≤ 140737488355328 := by rw [hd]; show (LP.length + 1) * 8 ≤ _; omega
    have HE63 : d.LE.length + 1 ≤ maxLen := by rw [hd]; show LE.length + 1 ≤ maxLen; unfold maxLen; omega
    have HE64 : (d.LE.length + 1) * 8 ≤ 140737488355328 := by rw [hd]; show (LE.length + 1) * 8 ≤ _; omega
    have hk0 : (0 : Int) ≤ d.k := by omega
    have hkn : (d.k : Int) < pnP := by rw [hdk]; omega
    have hkt : d.k < pnP := by rw [hdk]; exact hk
    have HWD : addR d d.W0 w6.drew := by rw [hdW]; exact addR_ext (Ext.refl _).drew
    have HUD : ∀ j, addU d j w6.drew := fun j => addU_ext (Ext.refl _).drew (by have := addU_start HAD.out j; rw [hdW] at this; exact this)
    obtain ⟨i0, hi0, hz0, hz1, hz2⟩ := info_parts int_info
    have HX06 := Lib.hid (HX05.out.trans HX6.out); have HBS6 := Lib.hid (HBS5.out.ext HX6.out)
    clear hd HX6 HX05 HBS5 HBN5 HBB5 HOP5 HOE5 HNE HCI HCE HBI HBE hl1 hl2
    refine region_slotsU (n := 22) (N := 124) (W0 := d.W0) (addR d) [82, 83, 84, 85, 86, 87, 88, 89, 90, 91, 92, 93, 94, 95, 96, 97, 98, 99, 100, 1000, 101, 1001] (addT d) (addU d) addDep addSpec addJ (by kernel_rfl) (by kernel_rfl) (by kernel_rfl) (by kernel_rfl) HWD (fun _ _ _ h1 h2 => ⟨h1.1.trans h2.1, fun h => h2.2 (h1.2 h)⟩) (fun j _ => HUD j) (fun xs i j _ _ h _ => by cases h) (fun i D xs v hs hj => addJ_other i D xs v hs hj) (fun i hi => ?_) ?_
    · match i, hi with
    -- D begin
      | 0, _ =>
        intro o ho b xs w hR hb hv hd hU D hD hDi hDw hDf hJ K hK
        simp only [List.getElem?_toArray, List.getElem?_cons_zero, List.getElem?_cons_succ, Option.some.injEq] at ho
        subst ho
        have e1 : b.eval (.tmp 10) = .pointer (some ⟨d.B, 0, none⟩) := (hb 10 (by kernel_rfl)).trans (by rw [hdB]; rfl)
        obtain ⟨z1, z2, hz⟩ := hR.2 ⟨_, _, HAD.out.b⟩
        obtain ⟨a0, a1, a2, a3, a4⟩ := blk5 hz
        refine step_valR (wanted_all rfl) (v := .pointer (some ⟨d.B, 1, none⟩)) (w' := w) (fun ρ hρ hc => ?_) (hK _ _ (addR_refl _ _) (fun _ _ _ _ h => h) (fun _ _ _ h => h) rfl (fun h => absurd h (by decide)))
        have re1 := (hρ (.tmp 10)).trans e1
        simp [execOp, go_sem, hc, re1, a1]
      | 1, _ =>
        intro o ho b xs w hR hb hv hd hU D hD hDi hDw hDf hJ K hK
        simp only [List.getElem?_toArray, List.getElem?_cons_zero, List.getElem?_cons_succ, Option.some.injEq] at ho
        subst ho
        have e1 : b.eval (.tmp 82) = .pointer (some ⟨d.B, 1, none⟩) := (hv 0 82 rfl (by omega)).trans (hd 0 (by kernel_rfl))
        obtain ⟨z, hz⟩ := hU
        obtain ⟨a0, a1, a2, a3, a4⟩ := blk5 hz
        have a5 : w.cell? ⟨d.B, 1, none⟩ = some (.slice d.A1 d.LP.length d.c1) := a1
        refine step_valR (wanted_all rfl) (v := .slice d.A1 d.LP.length d.c1) (w' := w) (fun ρ hρ hc => ?_) (hK _ _ (addR_refl _ _) (fun _ _ _ _ h => h) (fun _ _ _ h => h) rfl (fun h => absurd h (by decide)))
        have re1 := (hρ (.tmp 82)).trans e1
        simp [execOp, go_sem, hc, re1, a5]
      | 2, _ =>
        intro o ho b xs w hR hb hv hd hU D hD hDi hDw hDf hJ K hK
        simp only [List.getElem?_toArray, List.getElem?_cons_zero, List.getElem?_cons_succ, Option.some.injEq] at ho
        subst ho
        have e1 : b.eval (.tmp 4) = .pointer (some ⟨d.P, 0, none⟩) := (hb 4 (by kernel_rfl)).trans (by rw [hdP]; rfl)
        obtain ⟨a0, a1, a2, a3, a4⟩ := blk5 (addR_src HAD.out hR)
        refine step_valR (wanted_all rfl) (v := .pointer (some ⟨d.P, 1, none⟩)) (w' := w) (fun ρ hρ hc => ?_) (hK _ _ (addR_refl _ _) (fun _ _ _ _ h => h) (fun _ _ _ h => h) rfl (fun h => absurd h (by decide)))
        have re1 := (hρ (.tmp 4)).trans e1
        simp [execOp, go_sem, hc, re1, a1]
      | 3, _ =>
        intro o ho b xs w hR hb hv hd hU D hD hDi hDw hDf hJ K hK
        simp only [List.getElem?_toArray, List.getElem?_cons_zero, List.getElem?_cons_succ, Option.some.injEq] at ho
        subst ho
        have e1 : b.eval (.tmp 84) = .pointer (some ⟨d.P, 1, none⟩) := (hv 2 84 rfl (by omega)).trans (hd 2 (by kernel_rfl))
        obtain ⟨a0, a1, a2, a3, a4⟩ := blk5 (addR_src HAD.out hR)
        rw [hsP] at a1
        refine step_valR (wanted_all rfl) (v := .slice (some ⟨bi, oi, none⟩) pnP pcP) (w' := w) (fun ρ hρ hc => ?_) (hK _ _ (addR_refl _ _) (fun _ _ _ _ h => h) (fun _ _ _ h => h) hsP.symm (fun h => absurd h (by decide)))
        have re1 := (hρ (.tmp 84)).trans e1
        simp [execOp, go_sem, hc, re1, a1]
      | 4, _ =>
        intro o ho b xs w hR hb hv hd hU D hD hDi hDw hDf hJ K hK
        simp only [List.getElem?_toArray, List.getElem?_cons_zero, List.getElem?_cons_succ, Option.some.injEq] at ho
        subst ho
        have e1 : b.eval (.tmp 11) = .int .i64 d.k := (hb 11 (by kernel_rfl)).trans (by rw [hdk]; rfl)
        refine step_valR (wanted_all rfl) (v := .int .i64 d.k) (w' := w) (fun ρ hρ hc => ?_) (hK _ _ (addR_refl _ _) (fun _ _ _ _ h => h) (fun _ _ _ h => h) rfl (fun h => absurd h (by decide)))
        have re1 := (hρ (.tmp 11)).trans e1
        simp [execOp, go_sem, hc, re1]
      | 5, _ =>
        intro o ho b xs w hR hb hv hd hU D hD hDi hDw hDf hJ K hK
        simp only [List.getElem?_toArray, List.getElem?_cons_zero, List.getElem?_cons_succ, Option.some.injEq] at ho
        subst ho
        have e0 : b.eval (.tmp 85) = d.sP :=  (hv 3 85 rfl (by omega)).trans (hd 3 (by kernel_rfl))
        have e1 : b.eval (.tmp 85) = .slice (some ⟨bi, oi, none⟩) pnP pcP := e0.trans hsP
        have e2 : b.eval (.tmp 86) = .int .i64 d.k := (hv 4 86 rfl (by omega)).trans (hd 4 (by kernel_rfl))
        rw [e1] at e0
        clear e0
        refine step_valR (wanted_all rfl) (v := .pointer (some ⟨bi, oi + d.k, none⟩)) (w' := w) (fun ρ hρ hc => ?_) (hK _ _ (addR_refl _ _) (fun _ _ _ _ h => h) (fun _ _ _ h => h) (congrArg (fun y => Value.pointer (some y)) haP.symm) (fun h => absurd h (by decide)))
        skip
        have re1 := (hρ (.tmp 85)).trans e1
        have re2 := (hρ (.tmp 86)).trans e2
        simp [execOp, go_sem, hc, re1, re2, hk0, hkn, hkt]
      | 6, _ =>
        intro o ho b xs w hR hb hv hd hU D hD hDi hDw hDf hJ K hK
        simp only [List.getElem?_toArray, List.getElem?_cons_zero, List.getElem?_cons_succ, Option.some.injEq] at ho
        subst ho
        have e0 : b.eval (.tmp 87) = .pointer (some d.aP) := (hv 5 87 rfl (by omega)).trans (hd 5 (by kernel_rfl))
        have e1 : b.eval (.tmp 87) = .pointer (some ⟨bi, oi + d.k, none⟩) := e0.trans (congrArg (fun y => Value.pointer (some y)) haP)
        have a0 : w.cell? ⟨bi, oi + d.k, none⟩ = some (.int .i64 d.xp) := by rw [← haP]; exact (addR_cell HAD.out hR HAD.out.aP).trans HAD.out.cP
        refine step_valR (wanted_all rfl) (v := .int .i64 d.xp) (w' := w) (fun ρ hρ hc => ?_) (hK _ _ (addR_refl _ _) (fun _ _ _ _ h => h) (fun _ _ _ h => h) rfl (fun h => absurd h (by decide)))
        skip
        have re1 := (hρ (.tmp 87)).trans e1
        simp [execOp, go_sem, hc, re1, a0]
      | 7, _ =>
        intro o ho b xs w hR hb hv hd hU D hD hDi hDw hDf hJ K hK
        simp only [List.getElem?_toArray, List.getElem?_cons_zero, List.getElem?_cons_succ, Option.some.injEq] at ho
        subst ho
        have e1 : b.eval (.tmp 88) = .int .i64 d.xp := (hv 6 88 rfl (by omega)).trans (hd 6 (by kernel_rfl))
        have hx' : Ext w (w.alloc (.cells #[.int .i64 d.xp] 3)) := (Ext.refl _).alloc _
        refine step_valR (wanted_all rfl) (v := .slice (some ⟨w.heap.size, 0, none⟩) 1 1) (w' := w.alloc (.cells #[.int .i64 d.xp] 3)) (fun ρ hρ hc => ?_) (hK _ _ (addR_ext hx') (fun j u _ _ h => addT_ext hx' h) (fun j _ _ h => addU_ext hx' h) ⟨w.heap.size, rfl, hR.1.size, Blk.new' rfl⟩ (fun h => absurd h (by decide)))
        have re1 := (hρ (.tmp 88)).trans e1
        simp [execOp, go_sem, hc, re1]
      | 8, _ =>
        intro o ho b xs w hR hb hv hd hU D hD hDi hDw hDf hJ K hK
        simp only [List.getElem?_toArray, List.getElem?_cons_zero, List.getElem?_cons_succ, Option.some.injEq] at ho
        subst ho
        have e1 : b.eval (.tmp 83) = d.vP := (hv 1 83 rfl (by omega)).trans (hd 1 (by kernel_rfl))
        obtain ⟨g, hg, hge, hB⟩ := hd 7 (by kernel_rfl)
        have e2 : b.eval (.tmp 89) = .slice (some ⟨g, 0, none⟩) 1 1 := (hv 7 89 rfl (by omega)).trans hg
        have hbs : d.B + 1 ≤ w.heap.size := by have := HAD.out.b.lt; have := hR.1.size; omega
        refine step_append_lies w (by rfl) (.tmp 83) (.tmp 89) 23 (by rfl) (d.B + 1) 3 i0 (.int .i64 0) 1 8 Tryz.underlying23 hi0 hz0 hz1 hz2 rfl (by decide) d.vP d.LP.length (icells d.LP) e1 hU ⟨g, 0, none⟩ 1 1 [.int .i64 d.xp] e2 (by rfl) (World.news_of_block (cs := #[.int .i64 d.xp]) (t := 3) (fr := (0, 0)) hB) (by simp [Value.oneCell']) (by decide) HP63 HP64 hbs w.heap.size rfl ?_
        intro gg cap w6 hown hgrow hat hlt
        obtain ⟨hkk, hrr⟩ := addR_own (d := d) (r := d.vP) (fun b hb => ⟨.inr (.inl hb), by have := (World.ownsRow.lt HAD.out.p b hb).1; omega⟩) hgrow
        exact hK _ _ hrr (fun j u hj hdp h => addT_8 HAD.out hkk hj hdp h) (fun j hj hdp h => addU_8 HAD.out hkk hj hdp h) (addO_new hR.1.size hown hat) (fun _ => addJ_8 hDf)
      | 9, _ =>
        intro o ho b xs w hR hb hv hd hU D hD hDi hDw hDf hJ K hK
        simp only [List.getElem?_toArray, List.getElem?_cons_zero, List.getElem?_cons_succ, Option.some.injEq] at ho
        subst ho
        have e1 : b.eval (.tmp 10) = .pointer (some ⟨d.B, 0, none⟩) := (hb 10 (by kernel_rfl)).trans (by rw [hdB]; rfl)
        obtain ⟨z1, z2, hz⟩ := hR.2 ⟨_, _, HAD.out.b⟩
        obtain ⟨a0, a1, a2, a3, a4⟩ := blk5 hz
        refine step_valR (wanted_all rfl) (v := .pointer (some ⟨d.B, 2, none⟩)) (w' := w) (fun ρ hρ hc => ?_) (hK _ _ (addR_refl _ _) (fun _ _ _ _ h => h) (fun _ _ _ h => h) rfl (fun h => absurd h (by decide)))
        have re1 := (hρ (.tmp 10)).trans e1
        simp [execOp, go_sem, hc, re1, a2]
      | 10, _ =>
        intro o ho b xs w hR hb hv hd hU D hD hDi hDw hDf hJ K hK
        simp only [List.getElem?_toArray, List.getElem?_cons_zero, List.getElem?_cons_succ, Option.some.injEq] at ho
        subst ho
        have e1 : b.eval (.tmp 91) = .pointer (some ⟨d.B, 2, none⟩) := (hv 9 91 rfl (by omega)).trans (hd 9 (by kernel_rfl))
        obtain ⟨z, hz⟩ := hU
        obtain ⟨a0, a1, a2, a3, a4⟩ := blk5 hz
        have a5 : w.cell? ⟨d.B, 2, none⟩ = some (.slice d.A2 d.LE.length d.c2) := a2
        refine step_valR (wanted_all rfl) (v := .slice d.A2 d.LE.length d.c2) (w' := w) (fun ρ hρ hc => ?_) (hK _ _ (addR_refl _ _) (fun _ _ _ _ h => h) (fun _ _ _ h => h) rfl (fun h => absurd h (by decide)))
        have re1 := (hρ (.tmp 91)).trans e1
        simp [execOp, go_sem, hc, re1, a5]
      | 11, _ =>
        intro o ho b xs w hR hb hv hd hU D hD hDi hDw hDf hJ K hK
        simp only [List.getElem?_toArray, List.getElem?_cons_zero, List.getElem?_cons_succ, Option.some.injEq] at ho
        subst ho
        have e1 : b.eval (.tmp 4) = .pointer (some ⟨d.P, 0, none⟩) := (hb 4 (by kernel_rfl)).trans (by rw [hdP]; rfl)
        obtain ⟨a0, a1, a2, a3, a4⟩ := blk5 (addR_src HAD.out hR)
        refine step_valR (wanted_all rfl) (v := .pointer (some ⟨d.P, 2, none⟩)) (w' := w) (fun ρ hρ hc => ?_) (hK _ _ (addR_refl _ _) (fun _ _ _ _ h => h) (fun _ _ _ h => h) rfl (fun h => absurd h (by decide)))
        have re1 := (hρ (.tmp 4)).trans e1
        simp [execOp, go_sem, hc, re1, a2]
      | 12, _ =>
        intro o ho b xs w hR hb hv hd hU D hD hDi hDw hDf hJ K hK
        simp only [List.getElem?_toArray, List.getElem?_cons_zero, List.getElem?_cons_succ, Option.some.injEq] at ho
        subst ho
        have e1 : b.eval (.tmp 93) = .pointer (some ⟨d.P, 2, none⟩) := (hv 11 93 rfl (by omega)).trans (hd 11 (by kernel_rfl))
        obtain ⟨a0, a1, a2, a3, a4⟩ := blk5 (addR_src HAD.out hR)
        rw [hsE] at a2
        refine step_valR (wanted_all rfl) (v := .slice (some ⟨be, oe, none⟩) pnP pcE) (w' := w) (fun ρ hρ hc => ?_) (hK _ _ (addR_refl _ _) (fun _ _ _ _ h => h) (fun _ _ _ h => h) hsE.symm (fun h => absurd h (by decide)))
        have re1 := (hρ (.tmp 93)).trans e1
        simp [execOp, go_sem, hc, re1, a2]
      | 13, _ =>
        intro o ho b xs w hR hb hv hd hU D hD hDi hDw hDf hJ K hK
        simp only [List.getElem?_toArray, List.getElem?_cons_zero, List.getElem?_cons_succ, Option.some.injEq] at ho
        subst ho
        have e1 : b.eval (.tmp 11) = .int .i64 d.k := (hb 11 (by kernel_rfl)).trans (by rw [hdk]; rfl)
        refine step_valR (wanted_all rfl) (v := .int .i64 d.k) (w' := w) (fun ρ hρ hc => ?_) (hK _ _ (addR_refl _ _) (fun _ _ _ _ h => h) (fun _ _ _ h => h) rfl (fun h => absurd h (by decide)))
        have re1 := (hρ (.tmp 11)).trans e1
        simp [execOp, go_sem, hc, re1]
      | 14, _ =>
        intro o ho b xs w hR hb hv hd hU D hD hDi hDw hDf hJ K hK
        simp only [List.getElem?_toArray, List.getElem?_cons_zero, List.getElem?_cons_succ, Option.some.injEq] at ho
        subst ho
        have e0 : b.eval (.tmp 94) = d.sE :=  (hv 12 94 rfl (by omega)).trans (hd 12 (by kernel_rfl))
        have e1 : b.eval (.tmp 94) = .slice (some ⟨be, oe, none⟩) pnP pcE := e0.trans hsE
        have e2 : b.eval (.tmp 95) = .int .i64 d.k := (hv 13 95 rfl (by omega)).trans (hd 13 (by kernel_rfl))
        rw [e1] at e0
        clear e0
        refine step_valR (wanted_all rfl) (v := .pointer (some ⟨be, oe + d.k, none⟩)) (w' := w) (fun ρ hρ hc => ?_) (hK _ _ (addR_refl _ _) (fun _ _ _ _ h => h) (fun _ _ _ h => h) (congrArg (fun y => Value.pointer (some y)) haE.symm) (fun h => absurd h (by decide)))
        skip
        have re1 := (hρ (.tmp 94)).trans e1
        have re2 := (hρ (.tmp 95)).trans e2
        simp [execOp, go_sem, hc, re1, re2, hk0, hkn, hkt]
      | 15, _ =>
        intro o ho b xs w hR hb hv hd hU D hD hDi hDw hDf hJ K hK
        simp only [List.getElem?_toArray, List.getElem?_cons_zero, List.getElem?_cons_succ, Option.some.injEq] at ho
        subst ho
        have e0 : b.eval (.tmp 96) = .pointer (some d.aE) := (hv 14 96 rfl (by omega)).trans (hd 14 (by kernel_rfl))
        have e1 : b.eval (.tmp 96) = .pointer (some ⟨be, oe + d.k, none⟩) := e0.trans (congrArg (fun y => Value.pointer (some y)) haE)
        have a0 : w.cell? ⟨be, oe + d.k, none⟩ = some (.int .i64 d.xe) := by rw [← haE]; exact (addR_cell HAD.out hR HAD.out.aE).trans HAD.out.cE
        refine step_valR (wanted_all rfl) (v := .int .i64 d.xe) (w' := w) (fun ρ hρ hc => ?_) (hK _ _ (addR_refl _ _) (fun _ _ _ _ h => h) (fun _ _ _ h => h) rfl (fun h => absurd h (by decide)))
        skip
        have re1 := (hρ (.tmp 96)).trans e1
        simp [execOp, go_sem, hc, re1, a0]
      | 16, _ =>
        intro o ho b xs w hR hb hv hd hU D hD hDi hDw hDf hJ K hK
        simp only [List.getElem?_toArray, List.getElem?_cons_zero, List.getElem?_cons_succ, Option.some.injEq] at ho
        subst ho
        have e1 : b.eval (.tmp 97) = .int .i64 d.xe := (hv 15 97 rfl (by omega)).trans (hd 15 (by kernel_rfl))
        have hx' : Ext w (w.alloc (.cells #[.int .i64 d.xe] 3)) := (Ext.refl _).alloc _
        refine step_valR (wanted_all rfl) (v := .slice (some ⟨w.heap.size, 0, none⟩) 1 1) (w' := w.alloc (.cells #[.int .i64 d.xe] 3)) (fun ρ hρ hc => ?_) (hK _ _ (addR_ext hx') (fun j u _ _ h => addT_ext hx' h) (fun j _ _ h => addU_ext hx' h) ⟨w.heap.size, rfl, hR.1.size, Blk.new' rfl⟩ (fun h => absurd h (by decide)))
        have re1 := (hρ (.tmp 97)).trans e1
        simp [execOp, go_sem, hc, re1]
      | 17, _ =>
        intro o ho b xs w hR hb hv hd hU D hD hDi hDw hDf hJ K hK
        simp only [List.getElem?_toArray, List.getElem?_cons_zero, List.getElem?_cons_succ, Option.some.injEq] at ho
        subst ho
        have e1 : b.eval (.tmp 92) = d.vE := (hv 10 92 rfl (by omega)).trans (hd 10 (by kernel_rfl))
        obtain ⟨g, hg, hge, hB⟩ := hd 16 (by kernel_rfl)
        have e2 : b.eval (.tmp 98) = .slice (some ⟨g, 0, none⟩) 1 1 := (hv 16 98 rfl (by omega)).trans hg
        have hbs : d.B + 1 ≤ w.heap.size := by have := HAD.out.b.lt; have := hR.1.size; omega
        refine step_append_lies w (by rfl) (.tmp 92) (.tmp 98) 23 (by rfl) (d.B + 1) 3 i0 (.int .i64 0) 1 8 Tryz.underlying23 hi0 hz0 hz1 hz2 rfl (by decide) d.vE d.LE.length (icells d.LE) e1 hU ⟨g, 0, none⟩ 1 1 [.int .i64 d.xe] e2 (by rfl) (World.news_of_block (cs := #[.int .i64 d.xe]) (t := 3) (fr := (0, 0)) hB) (by simp [Value.oneCell']) (by decide) HE63 HE64 hbs w.heap.size rfl ?_
        intro gg cap w6 hown hgrow hat hlt
        obtain ⟨hkk, hrr⟩ := addR_own (d := d) (r := d.vE) (fun b hb => ⟨.inr (.inr hb), by have := (World.ownsRow.lt HAD.out.e b hb).1; omega⟩) hgrow
        exact hK _ _ hrr (fun j u hj hdp h => addT_17 HAD.out hkk hj hdp h) (fun j hj hdp h => addU_17 hj hdp h) (addO_new hR.1.size hown hat) (fun _ => addJ_17 hDf (addO_apart HAD.out (hD 8 (hDw 8 (by kernel_rfl))) hat))
      | 18, _ =>
        intro o ho b xs w hR hb hv hd hU D hD hDi hDw hDf hJ K hK
        simp only [List.getElem?_toArray, List.getElem?_cons_zero, List.getElem?_cons_succ, Option.some.injEq] at ho
        subst ho
        have e1 : b.eval (.tmp 10) = .pointer (some ⟨d.B, 0, none⟩) := (hb 10 (by kernel_rfl)).trans (by rw [hdB]; rfl)
        obtain ⟨z1, z2, hz⟩ := hR.2 ⟨_, _, HAD.out.b⟩
        obtain ⟨a0, a1, a2, a3, a4⟩ := blk5 hz
        refine step_valR (wanted_all rfl) (v := .pointer (some ⟨d.B, 1, none⟩)) (w' := w) (fun ρ hρ hc => ?_) (hK _ _ (addR_refl _ _) (fun _ _ _ _ h => h) (fun _ _ _ h => h) rfl (fun h => absurd h (by decide)))
        have re1 := (hρ (.tmp 10)).trans e1
        simp [execOp, go_sem, hc, re1, a1]
      | 19, _ =>
        intro o ho b xs w hR hb hv hd hU D hD hDi hDw hDf hJ K hK
        simp only [List.getElem?_toArray, List.getElem?_cons_zero, List.getElem?_cons_succ, Option.some.injEq] at ho
        subst ho
        have e1 : b.eval (.tmp 100) = .pointer (some ⟨d.B, 1, none⟩) := (hv 18 100 rfl (by omega)).trans (hd 18 (by kernel_rfl))
        have hO := hd 8 (by kernel_rfl)
        obtain ⟨AA, cc, hs, _⟩ := OwnI.slice hO.1
        obtain ⟨nn, hnn⟩ : ∃ nn, nn = (d.LP ++ [d.xp]).length := ⟨_, rfl⟩
        rw [← hnn] at hs
        have e2 : b.eval (.tmp 90) = .slice AA nn cc := (hv 8 90 rfl (by omega)).trans hs
        obtain ⟨z1, z2, hz⟩ := hR.2 ⟨_, _, HAD.out.b⟩
        obtain ⟨a0, a1, a2, a3, a4⟩ := blk5 hz
        have f1 := hz.frozen 1
        have hk : Kept (fun b => b = d.B) w (w.setCell ⟨d.B, 1, none⟩ (.slice AA nn cc)) := (Kept.refl (fun b => b = d.B) w).set (p := ⟨d.B, 1, none⟩) (.inr rfl) _
        have hO' := addO_kept hO hk (fun g hg hq => by have := (World.ownsRow.lt hO.1 g hg).1; omega)
        refine step_skipR (wanted_all rfl) (w' := w.setCell ⟨d.B, 1, none⟩ (.slice AA nn cc)) (fun ρ hρ hc => ?_) (hK (xs 8) _ (addR_set (.inl rfl) _) (fun j u hj hdp h => addT_19 HAD.out hk hj hdp h) (fun j hj hdp h => addU_19 hdp h) ⟨hO', z2, by have := hz.set 1 (xs 8); rw [hs] at this ⊢; exact this⟩ (fun _ => addJ_19 (hDw 8 (by kernel_rfl)) hJ))
        have re1 := (hρ (.tmp 100)).trans e1; have re2 := (hρ (.tmp 90)).trans e2
        simp [execOp, go_sem, re1, re2, a1, f1]
      | 20, _ =>
        intro o ho b xs w hR hb hv hd hU D hD hDi hDw hDf hJ K hK
        simp only [List.getElem?_toArray, List.getElem?_cons_zero, List.getElem?_cons_succ, Option.some.injEq] at ho
        subst ho
        have e1 : b.eval (.tmp 10) = .pointer (some ⟨d.B, 0, none⟩) := (hb 10 (by kernel_rfl)).trans (by rw [hdB]; rfl)
        obtain ⟨z1, z2, hz⟩ := hR.2 ⟨_, _, HAD.out.b⟩
        obtain ⟨a0, a1, a2, a3, a4⟩ := blk5 hz
        refine step_valR (wanted_all rfl) (v := .pointer (some ⟨d.B, 2, none⟩)) (w' := w) (fun ρ hρ hc => ?_) (hK _ _ (addR_refl _ _) (fun _ _ _ _ h => h) (fun _ _ _ h => h) rfl (fun h => absurd h (by decide)))
        have re1 := (hρ (.tmp 10)).trans e1
        simp [execOp, go_sem, hc, re1, a2]
      | 21, _ =>
        intro o ho b xs w hR hb hv hd hU D hD hDi hDw hDf hJ K hK
        simp only [List.getElem?_toArray, List.getElem?_cons_zero, List.getElem?_cons_succ, Option.some.injEq] at ho
        subst ho
        have e1 : b.eval (.tmp 101) = .pointer (some ⟨d.B, 2, none⟩) := (hv 20 101 rfl (by omega)).trans (hd 20 (by kernel_rfl))
        have hO := hd 17 (by kernel_rfl)
        obtain ⟨AA, cc, hs, _⟩ := OwnI.slice hO.1
        obtain ⟨nn, hnn⟩ : ∃ nn, nn = (d.LE ++ [d.xe]).length := ⟨_, rfl⟩
        rw [← hnn] at hs
        have e2 : b.eval (.tmp 99) = .slice AA nn cc := (hv 17 99 rfl (by omega)).trans hs
        obtain ⟨z1, z2, hz⟩ := hR.2 ⟨_, _, HAD.out.b⟩
        obtain ⟨a0, a1, a2, a3, a4⟩ := blk5 hz
        have f1 := hz.frozen 2
        have hk : Kept (fun b => b = d.B) w (w.setCell ⟨d.B, 2, none⟩ (.slice AA nn cc)) := (Kept.refl (fun b => b = d.B) w).set (p := ⟨d.B, 2, none⟩) (.inr rfl) _
        have hO' := addO_kept hO hk (fun g hg hq => by have := (World.ownsRow.lt hO.1 g hg).1; omega)
        refine step_skipR (wanted_all rfl) (w' := w.setCell ⟨d.B, 2, none⟩ (.slice AA nn cc)) (fun ρ hρ hc => ?_) (hK (xs 17) _ (addR_set (.inr rfl) _) (fun j u hj hdp h => addT_21 HAD.out hj h) (fun j hj hdp h => addU_21 hdp h) ⟨hO', z1, by have := hz.set 2 (xs 17); rw [hs] at this ⊢; exact this⟩ (fun _ => addJ_21 (hDw 17 (by kernel_rfl)) hJ))
        have re1 := (hρ (.tmp 101)).trans e1; have re2 := (hρ (.tmp 99)).trans e2
        simp [execOp, go_sem, re1, re2, a2, f1]
    -- D end
      | n + 22, hn => exact absurd hn (by omega)
    intro xs w7 hR hT hDJ b hb1 hb hv
    obtain ⟨D, hDall, hJ⟩ := hDJ
    obtain ⟨hO1, z1, hz1⟩ := hT 19 (by decide)
    obtain ⟨hO2, z2, hz2⟩ := hT 21 (by decide)
    have hzz := addZ_join hz1 hz2
    have hap := hJ 19 21 (.inr rfl) (.inr rfl) (hDall 19 (by decide)) (hDall 21 (by decide))
    obtain ⟨hd1, hd2, hd3, hd4, hd5⟩ := HDL.out
    have hoP := hO1.1; have hoE := hO2.1
    have hsrc := addR_src HAD.out hR
    unfold Ad.blk at hzz
    unfold Ad.src at hsrc
    rw [hd1, hdB, ← HLP.out] at hoP
    rw [hd2, hdB, ← HLE.out] at hoE
    rw [hdB, hd3, hd4, hd5] at hzz
    rw [hdP, hsP, hsE, hd3, hd4, hd5] at hsrc
    have HX7 : Hid (Ext w w7) := by
      have h06 := HX06.out
      rw [← hdW] at h06
      exact hR.1.ext h06 (fun b hb => by have := (addK_ge HAD.out hb).1; have := HG3.out; omega)
    have HS7 : Hid (Blk 29 w7 w.heap.size [.string nm, .slice AS nS cS, .slice AM nM cM, .slice AP nP cP, .slice AU nU cU, .slice AK nK cK, .slice AO nO cO]) := by
      have h6 := HBS6.out
      rw [← hdW] at h6
      exact hR.1.blk h6 (fun hb => by have := (addK_ge HAD.out hb).1; have := HG3.out; omega)
    obtain ⟨v1, hv1⟩ : ∃ y, y = xs 19 := ⟨_, rfl⟩
    obtain ⟨v2, hv2⟩ : ∃ y, y = xs 21 := ⟨_, rfl⟩
    rw [← hv1] at hoP hzz hap
    rw [← hv2] at hoE hzz hap
    have HZ7 := Lib.hid hzz; have HP7 := Lib.hid hoP; have HE7 := Lib.hid hoE; have HA7 := Lib.hid hap; have HN7 := Lib.hid hsrc
    have hlt7 : B < w7.heap.size := HZ7.out.lt
    have hwk : wrap64 ((k : Int) - 1) = (k : Int) - 1 := w64 (by omega) (by omega)
    subst hb1
    clear hzz hoP hoE hap hsrc hv1 hv2 hO1 hO2 hz1 hz2 hd1 hd2 hd3 hd4 hd5 hT hJ hDall D hR hb hv hdW hdB hdP hsP hsE hdk haP haE HDL HP63 HP64 HE63 HE64 hk0 hkn hkt HWD HUD HAD HBS6 HX06 HLP HLE
    rw [hsum]
    simp only [Act.put, frOf, putAll, List.setIfInBounds_toArray, List.set_cons_succ, List.set_cons_zero, List.set_nil]
    generalize xs (0 + 1 + 1 + 1 + 1 + 1 + 1 + 1 + 1 + 1 + 1 + 1 + 1 + 1 + 1 + 1 + 1 + 1 + 1 + 1 + 1 + 1) = y21
    generalize xs (0 + 1 + 1 + 1 + 1 + 1 + 1 + 1 + 1 + 1 + 1 + 1 + 1 + 1 + 1 + 1 + 1 + 1 + 1 + 1 + 1) = y20
    generalize xs (0 + 1 + 1 + 1 + 1 + 1 + 1 + 1 + 1 + 1 + 1 + 1 + 1 + 1 + 1 + 1 + 1 + 1 + 1 + 1) = y19
    generalize xs (0 + 1 + 1 + 1 + 1 + 1 + 1 + 1 + 1 + 1 + 1 + 1 + 1 + 1 + 1 + 1 + 1 + 1 + 1) = y18
    generalize xs (0 + 1 + 1 + 1 + 1 + 1 + 1 + 1 + 1 + 1 + 1 + 1 + 1 + 1 + 1 + 1 + 1 + 1) = y17
    generalize xs (0 + 1 + 1 + 1 + 1 + 1 + 1 + 1 + 1 + 1 + 1 + 1 + 1 + 1 + 1 + 1 + 1) = y16
    generalize xs (0 + 1 + 1 + 1 + 1 + 1 + 1 + 1 + 1 + 1 + 1 + 1 + 1 + 1 + 1 + 1) = y15
    generalize xs (0 + 1 + 1 + 1 + 1 + 1 + 1 + 1 + 1 + 1 + 1 + 1 + 1 + 1 + 1) = y14
    generalize xs (0 + 1 + 1 + 1 + 1 + 1 + 1 + 1 + 1 + 1 + 1 + 1 + 1 + 1) = y13
    generalize xs (0 + 1 + 1 + 1 + 1 + 1 + 1 + 1 + 1 + 1 + 1 + 1 + 1) = y12
    generalize xs (0 + 1 + 1 + 1 + 1 + 1 + 1 + 1 + 1 + 1 + 1 + 1) = y11
    generalize xs (0 + 1 + 1 + 1 + 1 + 1 + 1 + 1 + 1 + 1 + 1) = y10
    generalize xs (0 + 1 + 1 + 1 + 1 + 1 + 1 + 1 + 1 + 1) = y9
    generalize xs (0 + 1 + 1 + 1 + 1 + 1 + 1 + 1 + 1) = y8
    generalize xs (0 + 1 + 1 + 1 + 1 + 1 + 1 + 1) = y7
    generalize xs (0 + 1 + 1 + 1 + 1 + 1 + 1) = y6
    generalize xs (0 + 1 + 1 + 1 + 1 + 1) = y5
    generalize xs (0 + 1 + 1 + 1 + 1) = y4
    generalize xs (0 + 1 + 1 + 1) = y3
    generalize xs (0 + 1 + 1) = y2
    generalize xs (0 + 1) = y1
    generalize xs 0 = y0
    clear xs
    go_wp2_with fail
    go_roundw
    · exact ⟨k, S + G, v1, v2, by omega, rfl, rfl, HSG.out, HP7.out, HE7.out, HA7.out, HZ7.out, HS7.out, HN7.out, hlt7, HX7.out⟩
    · simp only [intOf]; omega
end Go.Proofs.YtkigmpholnfkbaaGreat
