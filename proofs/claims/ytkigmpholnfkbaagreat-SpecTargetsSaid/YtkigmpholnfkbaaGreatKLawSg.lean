/- the law SpecTargets, walked -/
import Derived.Test.YtkigmpholnfkbaaGreatKRS25
import Derived.Test.YtkigmpholnfkbaaGreatKLawSw
/- garmentref52: inside -/
namespace Go.Proofs.YtkigmpholnfkbaaGreat
open Go.RowKit
def insB (x : StyX) (p : PomX) : Bool := decide (pm2 x p = 0)
theorem ins_no {x : StyX} {p : PomX} (h : pm2 x p = 3) : insB x p = false := by unfold insB; rw [h]; rfl
theorem ins_yes {x : StyX} {p : PomX} (h : pm2 x p = 0) : insB x p = true := by unfold insB; rw [h]; rfl
theorem pm2_or (x : StyX) (p : PomX) : pm2 x p = 3 ∨ pm2 x p = 0 := by
  unfold pm2 pm3
  split
  · exact Or.inl rfl
  · split
    · exact Or.inl rfl
    · exact Or.inr rfl
set_option maxRecDepth 100000 in
set_option maxHeartbeats 6400000 in
theorem rins_any (a : StyA) (x : StyX) (q : PomA) (p : PomX) (w : World) (hs : StyXAt w a x) (hp : PomAt w q p) (hes : p.es.length = p.ps.length) :
    Calls Tryz.prog 34 #[a.val, q.val] w fun e w' => e = .returned (.bool (insB x p)) ∧ Ext w w' := by
  have HS := Lib.hid hs
  have HP := Lib.hid hp
  clear hs hp
  obtain ⟨nm, AS, nS, cS, AM, nM, cM, AP, nP, cP, AU, nU, cU, AK, nK, cK, AO, nO, cO⟩ := a
  have HLP : Hid (x.ps.length = nP) := HS.out.lP
  have hbP : nP ≤ 9223372036854775807 := HS.out.bP
  have HPS := Lib.hid HS.out.P
  clear HS
  obtain ⟨pn, pAP, pnP, pcP, pAE, pnE, pcE, ppl, pmi⟩ := q
  have HQP : Hid (p.ps.length = pnP) := HP.out.lP
  have HQE : Hid (p.es.length = pnE) := HP.out.lE
  have HQL : Hid (p.pl = ppl) := HP.out.pl.symm
  have HQM : Hid (p.mi = pmi) := HP.out.mi.symm
  have HQA := Lib.hid HP.out.P
  have HQB := Lib.hid HP.out.E
  have hbq : pnP ≤ 9223372036854775807 := HP.out.bP
  obtain rfl : pnP = pnE := by have := HQP.out; have := HQE.out; omega
  clear HP hes
  simp only [StyA.val, PomA.val] at HPS HQA HQB ⊢
  obtain ⟨IB, hIB⟩ : ∃ IB, IB = insB x p := ⟨_, rfl⟩
  rw [← hIB]
  have HIB := Lib.hid hIB; clear hIB
  go_enter Tryz.func34, Tryz.ntmps34
  go_upto_region 1 with fail
  refine wp_at fun W0 hW0 => ?_
  obtain ⟨hb0, hh0⟩ : ∃ z, z = w.heap.size := ⟨_, rfl⟩
  have HB0 : Hid (Blk 29 W0 w.heap.size [.string nm, .slice AS nS cS, .slice AM nM cM, .slice AP nP cP, .slice AU nU cU, .slice AK nK cK, .slice AO nO cO]) := by show Blk _ _ _ _; rw [hW0]; exact (Blk.new' rfl).ext ((Ext.refl _).alloc _)
  have HN0 : Hid (Blk 36 W0 (w.heap.size + 1) [.string pn, .slice pAP pnP pcP, .slice pAE pnP pcE, .int .i64 ppl, .int .i64 pmi]) := by show Blk _ _ _ _; rw [hW0]; exact Blk.new' (by simp)
  have HX0 : Hid (Ext w W0) := by show Ext _ _; rw [hW0]; exact ((Ext.refl _).alloc _).alloc _
  clear hW0 hh0
  go_wp2_with fail
  go_loopw [5] (fun i wr => ∃ m : Nat, m ≤ pnP ∧ i = .int .i64 m ∧ allB (pomRef x p) m = true ∧ Ext W0 wr) (fun i _ => pnP - (intOf i).toNat)
  case atStart => exact ⟨0, Nat.zero_le _, rfl, rfl, Ext.refl _⟩
  case round =>
    obtain ⟨m, hm, rfl, hall, hx⟩ := hrel
    have HAL3 := Lib.hid hall; have HX := Lib.hid hx; clear hall hx
    obtain ⟨a0, a1, a2, a3, a4⟩ := blk5 (HN0.out.ext HX.out)
    obtain ⟨c0, c1, c2, c3, c4, c5, c6⟩ := blk7 (HB0.out.ext HX.out)
    by_cases hmn : m < pnP
    · obtain ⟨bi, oi, hAI, i0⟩ := (HQA.out.ext (HX0.out.trans HX.out)).g (k := m) (by rw [HQP.out]; exact hmn)
      subst hAI
      obtain ⟨be, oe, hAE, e0⟩ := (HQB.out.ext (HX0.out.trans HX.out)).g (k := m) (by rw [HQE.out]; exact hmn)
      subst hAE
      have HRF : Hid (pomRef x p m = edgeB x.s (gI p.ps m) (gI p.es m)) := rfl
      have HFL : Hid (pomRef x p m = false → IB = false) := fun h => by
        rw [HIB.out]; exact ins_no (by unfold pm2; rw [if_pos (by rw [HQP.out]; exact allB_false hmn h)])
      obtain ⟨pc, hpc⟩ : ∃ pc, pc = gI p.ps m := ⟨_, rfl⟩
      obtain ⟨ed, hed⟩ : ∃ ed, ed = gI p.es m := ⟨_, rfl⟩
      rw [← hpc] at i0 HRF
      rw [← hed] at e0 HRF
      clear hpc hed
      by_cases q0 : pc < 0
      · have HR := Lib.hid (HFL.out (by rw [HRF.out]; exact edge_no (by omega)))
        have q0b : decide (pc < 0) = true := decide_eq_true q0
        go_wp2_with fail
        go_quiet (fail)
        go_wp2_with fail
        go_ret
        exact ⟨ret_bool HR.out.symm, HX0.out.trans (HX.out.drewN _)⟩
      have q0b : decide (pc < 0) = false := decide_eq_false q0
      by_cases q1 : (nP : Int) ≤ pc
      · have HR := Lib.hid (HFL.out (by rw [HRF.out]; exact edge_no (by rw [sps_len, HLP.out]; omega)))
        have q1b : decide ((nP : Int) ≤ pc) = true := decide_eq_true q1
        go_wp2_with fail
        go_quiet (fail)
        go_wp2_with fail
        go_ret
        exact ⟨ret_bool HR.out.symm, HX0.out.trans (HX.out.drewN _)⟩
      have q1b : decide ((nP : Int) ≤ pc) = false := decide_eq_false q1
      by_cases q2 : ed < 0
      · have HR := Lib.hid (HFL.out (by rw [HRF.out]; exact edge_no (by omega)))
        have q2b : decide (ed < 0) = true := decide_eq_true q2
        go_wp2_with fail
        go_quiet (fail)
        go_wp2_with fail
        go_ret
        exact ⟨ret_bool HR.out.symm, HX0.out.trans (HX.out.drewN _)⟩
      have q2b : decide (ed < 0) = false := decide_eq_false q2
      obtain ⟨PC, rfl⟩ := Int.eq_ofNat_of_zero_le (show 0 ≤ pc by omega)
      have hPC : PC < nP := by omega
      have HPCL : Hid (PC < x.ps.length) := by show _ < _; rw [HLP.out]; exact hPC
      obtain ⟨bz, oz, q, hAZ, hq, hcq, _, _⟩ := (HPS.out.ext (HX0.out.trans HX.out)) PC HPCL.out
      subst hAZ
      have d1 := hcq.c1
      obtain ⟨zA, hzA⟩ : ∃ z, z = q.AE := ⟨_, rfl⟩
      obtain ⟨zn, hzn⟩ : ∃ z, z = q.nE := ⟨_, rfl⟩
      obtain ⟨zc, hzc⟩ : ∃ z, z = q.cE := ⟨_, rfl⟩
      rw [← hzA, ← hzn, ← hzc] at d1
      have HZN : Hid ((gPx x.ps PC).p.es.length = zn) := by show _ = _; rw [hzn]; exact hq.le
      clear hq hcq hzA hzn hzc
      by_cases q3 : (zn : Int) ≤ ed
      · have HR := Lib.hid (HFL.out (by rw [HRF.out]; exact edge_no (by rw [Int.toNat_natCast, sps_get HPCL.out, HZN.out]; omega)))
        have q3b : decide ((zn : Int) ≤ ed) = true := decide_eq_true q3
        go_wp2_with fail
        go_quiet (fail)
        go_wp2_with fail
        go_ret
        exact ⟨ret_bool HR.out.symm, HX0.out.trans (HX.out.drewN _)⟩
      have q3b : decide ((zn : Int) ≤ ed) = false := decide_eq_false q3
      have HRT : Hid (pomRef x p m = true) := by show _ = _; rw [HRF.out]; exact edge_yes (by rw [Int.toNat_natCast, sps_get HPCL.out, HZN.out, sps_len, HLP.out]; omega)
      go_wp2_with fail
      go_quiet (fail)
      go_wp2_with fail
      go_roundw
      case rel => exact ⟨m + 1, by omega, by go_num, allB_succ HAL3.out HRT.out, HX.out.drewN _⟩
      case measure => simp [intOf]; omega
    obtain rfl : m = pnP := by omega
    have HPE3 : Hid (pm2 x p = if ppl < 0 ∨ 1073741824 < ppl ∨ pmi < 0 ∨ 1073741824 < pmi then 3 else 0) := by
      show _ = _; unfold pm2; rw [if_neg (by rw [HQP.out, HAL3.out]; simp)]; unfold pm3; rw [HQL.out, HQM.out]
    clear HAL3
    have HFL : Hid (ppl < 0 ∨ 1073741824 < ppl ∨ pmi < 0 ∨ 1073741824 < pmi → IB = false) := fun h => by
      rw [HIB.out]; exact ins_no (by rw [HPE3.out, if_pos h])
    have HFT : Hid (¬ (ppl < 0 ∨ 1073741824 < ppl ∨ pmi < 0 ∨ 1073741824 < pmi) → IB = true) := fun h => by
      rw [HIB.out]; exact ins_yes (by rw [HPE3.out, if_neg h])
    clear HIB
    by_cases q0 : 0 ≤ ppl
    rotate_left
    · have HR := Lib.hid (HFL.out (by omega))
      go_wp2_with fail
      go_ret
      exact ⟨ret_bool HR.out.symm, HX0.out.trans HX.out⟩
    by_cases q1 : ppl ≤ 1073741824
    rotate_left
    · have HR := Lib.hid (HFL.out (by omega))
      go_wp2_with fail
      go_ret
      exact ⟨ret_bool HR.out.symm, HX0.out.trans HX.out⟩
    by_cases q2 : 0 ≤ pmi
    rotate_left
    · have HR := Lib.hid (HFL.out (by omega))
      go_wp2_with fail
      go_ret
      exact ⟨ret_bool HR.out.symm, HX0.out.trans HX.out⟩
    by_cases q3 : pmi ≤ 1073741824
    rotate_left
    · have HR := Lib.hid (HFL.out (by omega))
      go_wp2_with fail
      go_ret
      exact ⟨ret_bool HR.out.symm, HX0.out.trans HX.out⟩
    have HR := Lib.hid (HFT.out (by omega))
    go_wp2_with fail
    go_ret
    exact ⟨ret_bool HR.out.symm, HX0.out.trans HX.out⟩
end Go.Proofs.YtkigmpholnfkbaaGreat
/- garmentref52.sum -/
namespace Go.Proofs.YtkigmpholnfkbaaGreat
open Go.RowKit
set_option maxRecDepth 100000 in
set_option maxHeartbeats 3200000 in
theorem rsum_any (a : StyA) (x : StyX) (q : PomA) (p : PomX) (Z : Nat) (w : World) (hs : StyXAt w a x) (hZM : Z < x.ms.length) (hL : ∀ k, k < x.ps.length → (gPx x.ps k).p.es.length ≤ 1000 ∧ (gPx x.ps k).p.cs.length ≤ 1000) (hp : PomAt w q p) (hes : p.es.length = p.ps.length) (h16 : p.ps.length ≤ 16)
    (hrf : ∀ k, k < p.ps.length → edgeB x.s (gI p.ps k) (gI p.es k) = true) :
    Calls Tryz.prog 36 #[a.val, q.val, .int .i64 (Z : Int)] w (RetTg w (tgV x p (gI x.ms Z)) (tgE x p (gI x.ms Z))) := by
  have HS := Lib.hid hs
  have HP := Lib.hid hp
  have HRF := Lib.hid hrf
  have HLL := Lib.hid hL
  have HMS := Lib.hid hs.M
  have HZM := Lib.hid hZM
  clear hs hp hrf hL hZM
  obtain ⟨m, hm⟩ : ∃ m, m = gI x.ms Z := ⟨_, rfl⟩
  rw [← hm]
  have HMM := Lib.hid hm; clear hm
  obtain ⟨nm, AS, nS, cS, AM, nM, cM, AP, nP, cP, AU, nU, cU, AK, nK, cK, AO, nO, cO⟩ := a
  have HLP : Hid (x.ps.length = nP) := HS.out.lP
  have hbP : nP ≤ 9223372036854775807 := HS.out.bP
  have HPS := Lib.hid HS.out.P
  have HLM : Hid (x.ms.length = nM) := HS.out.lM
  have hZn : Z < nM := by have := HLM.out; have := HZM.out; omega
  have hbM : nM ≤ 9223372036854775807 := HS.out.bM
  clear HS
  obtain ⟨pn, pAP, pnP, pcP, pAE, pnE, pcE, ppl, pmi⟩ := q
  have HQP : Hid (p.ps.length = pnP) := HP.out.lP
  have HQE : Hid (p.es.length = pnE) := HP.out.lE
  have HQA := Lib.hid HP.out.P
  have HQB := Lib.hid HP.out.E
  have hn16 : pnP ≤ 16 := by have := HQP.out; omega
  obtain rfl : pnP = pnE := by have := HQP.out; have := HQE.out; omega
  clear HP hes h16
  simp only [StyA.val, PomA.val] at HPS HQA HQB HMS ⊢
  go_enter Tryz.func36, Tryz.ntmps36
  go_upto_region 1 with fail
  refine wp_at fun W0 hW0 => ?_
  have HB0 : Hid (Blk 29 W0 w.heap.size [.string nm, .slice AS nS cS, .slice AM nM cM, .slice AP nP cP, .slice AU nU cU, .slice AK nK cK, .slice AO nO cO]) := by show Blk _ _ _ _; rw [hW0]; exact (Blk.new' rfl).ext ((Ext.refl _).alloc _)
  have HN0 : Hid (Blk 36 W0 (w.heap.size + 1) [.string pn, .slice pAP pnP pcP, .slice pAE pnP pcE, .int .i64 ppl, .int .i64 pmi]) := by show Blk _ _ _ _; rw [hW0]; exact Blk.new' (by simp)
  have HX0 : Hid (Ext w W0) := by show Ext _ _; rw [hW0]; exact ((Ext.refl _).alloc _).alloc _
  clear hW0
  obtain ⟨a0, a1, a2, a3, a4⟩ := blk5 HN0.out
  go_wp2_with fail
  clear a0 a1 a2 a3 a4
  go_loopw [8, 9] (fun s i wr => ∃ k : Nat, k ≤ pnP ∧ i = .int .i64 k ∧ s = .int .i64 (tgTo x p m k : Int) ∧ firstE (tgR x p m) k = 0 ∧ Ext W0 wr) (fun _ i _ => pnP - (intOf i).toNat)
  case atStart => exact ⟨0, Nat.zero_le _, rfl, rfl, rfl, Ext.refl _⟩
  case round =>
    obtain ⟨k, hk, rfl, rfl, hall, hx⟩ := hrel
    have HALL := Lib.hid hall; have HX := Lib.hid hx; clear hall hx
    have hbd := tgTo_bd x p m k
    have HTS : Hid (tgTo x p m (k + 1) = tgTo x p m k + tgN x p m k) := rfl
    obtain ⟨S, hS⟩ : ∃ S, S = tgTo x p m k := ⟨_, rfl⟩
    rw [← hS] at hbd HTS ⊢
    have hSb : S ≤ 16000000000000 := by omega
    have HSS := Lib.hid hS
    clear hbd hS
    obtain ⟨a0, a1, a2, a3, a4⟩ := blk5 (HN0.out.ext HX.out)
    by_cases hlt : k < pnP
    rotate_left
    · obtain rfl : k = pnP := by omega
      have HE : Hid (tgE x p m = 0) := by show _ = _; unfold tgE; rw [HQP.out]; exact HALL.out
      go_wp2_with fail
      go_ret2
      exact ⟨by rw [tgV_ok HE.out, HE.out, HQP.out, ← HSS.out]; rfl, HX0.out.trans HX.out⟩
    have HKL : Hid (k < p.ps.length) := by show _ < _; rw [HQP.out]; exact hlt
    obtain ⟨bi, oi, hAI, i0⟩ := (HQA.out.ext (HX0.out.trans HX.out)).g (k := k) HKL.out
    subst hAI
    have hed := HRF.out k HKL.out
    unfold edgeB at hed
    have hed' := of_decide_eq_true hed
    clear hed
    have HTR : Hid (tgR x p m k = gradedR (gPx x.ps (gI p.ps k).toNat).p.es (gPx x.ps (gI p.ps k).toNat).p.cs m) := rfl
    have HTN : Hid (tgN x p m k = lengthN (gE (gradedE (gPx x.ps (gI p.ps k).toNat).p.es (gPx x.ps (gI p.ps k).toNat).p.cs m) (gI p.es k).toNat).2) := rfl
    obtain ⟨pc, hpc⟩ : ∃ pc, pc = gI p.ps k := ⟨_, rfl⟩
    obtain ⟨ed, hed⟩ : ∃ ed, ed = gI p.es k := ⟨_, rfl⟩
    rw [← hpc] at i0 hed' HTR HTN
    rw [← hed] at hed' HTN
    have HED := Lib.hid hed
    clear hpc hed
    obtain ⟨q0, q1, q2, q3⟩ := hed'
    obtain ⟨PC, rfl⟩ := Int.eq_ofNat_of_zero_le q0
    obtain ⟨ED, rfl⟩ := Int.eq_ofNat_of_zero_le q2
    rw [sps_len, HLP.out] at q1
    have hPC : PC < nP := by omega
    have HPCL : Hid (PC < x.ps.length) := by show _ < _; rw [HLP.out]; exact hPC
    rw [Int.toNat_natCast, sps_get HPCL.out] at q3
    rw [Int.toNat_natCast] at HTR HTN
    rw [Int.toNat_natCast] at HTN
    obtain ⟨bz, oz, qa, hAZ, hq, hcq, hzz1, hzz2⟩ := (HPS.out.ext (HX0.out.trans HX.out)) PC HPCL.out
    subst hAZ
    clear hzz1 hzz2
    obtain ⟨es, hes⟩ : ∃ es, es = (gPx x.ps PC).p.es := ⟨_, rfl⟩
    obtain ⟨cs, hcs⟩ : ∃ cs, cs = (gPx x.ps PC).p.cs := ⟨_, rfl⟩
    have hb := HLL.out PC HPCL.out
    have HGR := Lib.hid (fun W (h : Ext wr W) => rgraded_any qa.nm qa.AE qa.AN qa.AC qa.AW qa.nE qa.cE qa.nN qa.cN qa.nC qa.cC qa.nW qa.cW qa.gr m qa.mt es cs W (by rw [hes]; exact hq.e.ext h) (by rw [hes]; exact hq.le) (by rw [hcs]; exact hq.c.ext h) (by rw [hcs]; exact hq.lc) (by rw [← hq.le]; exact hb.1) (by rw [← hq.lc]; exact hb.2))
    clear hb
    have HLZ : Hid (es.length = qa.nE) := by show _ = _; rw [hes]; exact hq.le
    rw [← hes] at q3 HTR HTN
    rw [← hcs] at HTR HTN
    clear hq hes hcs
    obtain ⟨znm, zAE, znE, zcE, zgr, zAN, znN, zcN, zAC, znC, zcC, zAW, znW, zcW, zmt⟩ := qa
    obtain ⟨d0, d1, d2, d3, d4, d5, d6⟩ := hcq
    simp only at d0 d1 d2 d3 d4 d5 d6 HGR HLZ
    rw [HLZ.out] at q3
    have hED : ED < znE := by omega
    obtain ⟨c0, c1, c2, c3, c4, c5, c6⟩ := blk7 (HB0.out.ext HX.out)
    clear q0 q1 q2 q3
    obtain ⟨bm, om, hAM, m0⟩ := (HMS.out.ext (HX0.out.trans HX.out)).g (k := Z) HZM.out
    subst hAM
    rw [← HMM.out] at m0
    have keep : ∀ W1 : World, Ext wr W1 → (Ext wr W1 ∧ W1.cell? ⟨w.heap.size, 2, none⟩ = some (.slice (some ⟨bm, om, none⟩) nM cM) ∧ W1.cell? ⟨w.heap.size, 3, none⟩ = some (.slice (some ⟨bz, oz, none⟩) nP cP) ∧ W1.cell? ⟨w.heap.size + 1, 1, none⟩ = some (.slice (some ⟨bi, oi, none⟩) pnP pcP) ∧ W1.cell? ⟨bi, oi + k, none⟩ = some (.int .i64 (PC : Int)) ∧ W1.cell? ⟨bm, om + Z, none⟩ = some (.int .i64 m) ∧ W1.cell? ⟨bz, oz + PC * 7, none⟩ = some (.string znm) ∧ W1.cell? ⟨bz, oz + PC * 7 + 1, none⟩ = some (.slice zAE znE zcE) ∧ W1.cell? ⟨bz, oz + PC * 7 + 2, none⟩ = some (.int .i64 zgr) ∧ W1.cell? ⟨bz, oz + PC * 7 + 3, none⟩ = some (.slice zAN znN zcN) ∧ W1.cell? ⟨bz, oz + PC * 7 + 4, none⟩ = some (.slice zAC znC zcC) ∧ W1.cell? ⟨bz, oz + PC * 7 + 5, none⟩ = some (.slice zAW znW zcW) ∧ W1.cell? ⟨bz, oz + PC * 7 + 6, none⟩ = some (.bool zmt)) := fun W1 hx => ⟨hx, hx.cell c2, hx.cell c3, hx.cell a1, hx.cell i0, hx.cell m0, hx.cell d0, hx.cell d1, hx.cell d2, hx.cell d3, hx.cell d4, hx.cell d5, hx.cell d6⟩
    have KEEP := Lib.hid keep; clear keep
    have getw : ∀ W : World, (Ext wr W ∧ W.cell? ⟨w.heap.size, 2, none⟩ = some (.slice (some ⟨bm, om, none⟩) nM cM) ∧ W.cell? ⟨w.heap.size, 3, none⟩ = some (.slice (some ⟨bz, oz, none⟩) nP cP) ∧ W.cell? ⟨w.heap.size + 1, 1, none⟩ = some (.slice (some ⟨bi, oi, none⟩) pnP pcP) ∧ W.cell? ⟨bi, oi + k, none⟩ = some (.int .i64 (PC : Int)) ∧ W.cell? ⟨bm, om + Z, none⟩ = some (.int .i64 m) ∧ W.cell? ⟨bz, oz + PC * 7, none⟩ = some (.string znm) ∧ W.cell? ⟨bz, oz + PC * 7 + 1, none⟩ = some (.slice zAE znE zcE) ∧ W.cell? ⟨bz, oz + PC * 7 + 2, none⟩ = some (.int .i64 zgr) ∧ W.cell? ⟨bz, oz + PC * 7 + 3, none⟩ = some (.slice zAN znN zcN) ∧ W.cell? ⟨bz, oz + PC * 7 + 4, none⟩ = some (.slice zAC znC zcC) ∧ W.cell? ⟨bz, oz + PC * 7 + 5, none⟩ = some (.slice zAW znW zcW) ∧ W.cell? ⟨bz, oz + PC * 7 + 6, none⟩ = some (.bool zmt)) → Ext wr W := fun W h => h.1
    have GETW := Lib.hid getw; clear getw
    go_wp2_with fail
    clear c0 c1 c2 c3 c4 c5 c6 a0 a1 a2 a3 a4 i0 m0 d0 d1 d2 d3 d4 d5 d6
    go_region_held3 (fun W => Ext wr W ∧ W.cell? ⟨w.heap.size, 2, none⟩ = some (.slice (some ⟨bm, om, none⟩) nM cM) ∧ W.cell? ⟨w.heap.size, 3, none⟩ = some (.slice (some ⟨bz, oz, none⟩) nP cP) ∧ W.cell? ⟨w.heap.size + 1, 1, none⟩ = some (.slice (some ⟨bi, oi, none⟩) pnP pcP) ∧ W.cell? ⟨bi, oi + k, none⟩ = some (.int .i64 (PC : Int)) ∧ W.cell? ⟨bm, om + Z, none⟩ = some (.int .i64 m) ∧ W.cell? ⟨bz, oz + PC * 7, none⟩ = some (.string znm) ∧ W.cell? ⟨bz, oz + PC * 7 + 1, none⟩ = some (.slice zAE znE zcE) ∧ W.cell? ⟨bz, oz + PC * 7 + 2, none⟩ = some (.int .i64 zgr) ∧ W.cell? ⟨bz, oz + PC * 7 + 3, none⟩ = some (.slice zAN znN zcN) ∧ W.cell? ⟨bz, oz + PC * 7 + 4, none⟩ = some (.slice zAC znC zcC) ∧ W.cell? ⟨bz, oz + PC * 7 + 5, none⟩ = some (.slice zAW znW zcW) ∧ W.cell? ⟨bz, oz + PC * 7 + 6, none⟩ = some (.bool zmt))
      (first | (with_reducible assumption) | (with_reducible exact KEEP.out _ (Ext.drew (Ext.refl _))) | (with_reducible exact KEEP.out _ hxr) | fail)
      (first
        | (go_at_call 60; refine (HGR.out _ (GETW.out _ ‹_›)).mono ?_; rintro e w1 ⟨v1, rfl, hv, hv', he1⟩; have hxr := (GETW.out _ ‹_›).trans he1)
        | fail)
    have HX1 := Lib.hid (HX.out.trans hxr)
    clear he1 hxr HGR KEEP GETW
    by_cases hz : gradedR es cs m = 0
    rotate_left
    · have hvf := hv' hz
      subst hvf
      have hzb : (gradedR es cs m != 0) = true := by simp [hz]
      have HE : Hid (tgE x p m = gradedR es cs m) := by show _ = _; unfold tgE; rw [firstE_at HKL.out HALL.out (by rw [HTR.out]; exact hz), HTR.out]
      obtain ⟨R, hR⟩ : ∃ R, R = gradedR es cs m := ⟨_, rfl⟩
      rw [← hR] at hz hzb HE ⊢
      have HZ := Lib.hid hz
      clear hv hv' hz hR
      go_wp2_with fail
      go_ret2
      exact ⟨by rw [tgV_bad (by rw [HE.out]; exact HZ.out), HE.out]; rfl, HX0.out.trans HX1.out⟩
    have hO := hv hz
    have HLC := Lib.hid (graded_lines hz (show ED < es.length by rw [HLZ.out]; exact hED))
    have HTZ : Hid (tgR x p m k = 0) := by show _ = _; rw [HTR.out]; exact hz
    obtain ⟨A1, c1', hvf, hE1, _, _⟩ := OwnE.slice' (n := znE) hO (by rw [gradedE_len]; exact HLZ.out)
    subst hvf
    obtain ⟨bg, og, LG, cG, hA1, _, g1, hSG, _, _⟩ := hE1.g (k := ED) (by rw [gradedE_len, HLZ.out]; exact hED)
    subst hA1
    obtain ⟨lg, hlg⟩ : ∃ lg, lg = (gE (gradedE es cs m) ED).2 := ⟨_, rfl⟩
    rw [← hlg] at g1 hSG HLC HTN
    obtain ⟨ng, hng⟩ : ∃ ng, ng = lg.length := ⟨_, rfl⟩
    rw [← hng] at g1
    rw [hz]
    have HNG := Lib.hid hng; have HSG := Lib.hid hSG
    clear hv hv' hz hO hE1 hlg hng hSG HTR
    obtain ⟨a0, a1, a2, a3, a4⟩ := blk5 (HN0.out.ext HX1.out)
    obtain ⟨be, oe, hAE, e0⟩ := (HQB.out.ext (HX0.out.trans HX1.out)).g (k := k) (by rw [HQE.out]; exact hlt)
    subst hAE
    rw [← HED.out] at e0
    go_wp2_with fail
    refine (rlength_any LG ng cG lg _ HSG.out HNG.out.symm).mono ?_
    rintro e w2 ⟨rfl, he2⟩
    rw [HLC.out]
    have HX2 := Lib.hid (HX1.out.trans he2)
    have hnb := tgN_bd x p m k
    rw [HTN.out] at hnb
    have HTS' : Hid (tgTo x p m (k + 1) = S + lengthN lg) := by show _ = _; rw [HTS.out, HTN.out]
    obtain ⟨LN, hLN⟩ : ∃ LN, LN = lengthN lg := ⟨_, rfl⟩
    rw [← hLN] at hnb HTS' ⊢
    clear he2 a0 a1 a2 a3 a4 g1 e0 hLN
    go_wp2_with fail
    go_roundw
    case rel => exact ⟨k + 1, by omega, by go_num, by rw [HTS'.out]; go_num, firstE_succ HALL.out HTZ.out, HX2.out⟩
    case measure => simp [intOf]; omega
end Go.Proofs.YtkigmpholnfkbaaGreat
/- garmentref52.Check -/
namespace Go.Proofs.YtkigmpholnfkbaaGreat
open Go.RowKit
set_option maxRecDepth 100000 in
set_option maxHeartbeats 6400000 in
theorem r52Check_any (a : StyA) (x : StyX) (A : Option Addr) (n c : Nat) (l : List PomX) (w : World) (hs : StyXAt w a x) (hN : x.sz.length ≤ 1000) (hZ : ∀ k, k < x.sz.length → (gB x.sz k).size ≤ 1000) (hL : ∀ k, k < x.ps.length → (gPx x.ps k).p.es.length ≤ 1000 ∧ (gPx x.ps k).p.cs.length ≤ 1000)
    (hP : PomsAt w A l) (hl : l.length = n) (hc : n ≤ c) (hc' : c ≤ 9223372036854775807) :
    Calls Tryz.prog 14 #[a.val, .slice A n c] w fun e w' => e = .returned (.int .i64 (spcE x l)) ∧ Ext w w' := by
  have HCC := Lib.hid (fun W (h : Ext w W) => r25Check_any a x W (hs.ext h) hN hZ hL)
  have HCI := Lib.hid (fun W q p (h : Ext w W) (hq : PomAt W q p) (he : p.es.length = p.ps.length) => rins_any a x q p W (hs.ext h) hq he)
  clear hs hN hZ hL
  have HP := Lib.hid hP; clear hP
  have HL := Lib.hid hl; clear hl
  obtain ⟨nm, AS, nS, cS, AM, nM, cM, AP, nP, cP, AU, nU, cU, AK, nK, cK, AO, nO, cO⟩ := a
  simp only [StyA.val, PomA.val] at HCC HCI ⊢
  obtain ⟨SP, hSP⟩ : ∃ SP, SP = spcE x l := ⟨_, rfl⟩
  rw [← hSP]
  unfold spcE at hSP
  have HSP := Lib.hid hSP; clear hSP
  go_enter Tryz.func14, Tryz.ntmps14
  go_wp2_with fail
  refine (HCC.out _ ((Ext.refl _).alloc _)).mono ?_
  rintro e w1 ⟨rfl, he1⟩
  have HB1 : Hid (Blk 29 w1 w.heap.size [.string nm, .slice AS nS cS, .slice AM nM cM, .slice AP nP cP, .slice AU nU cU, .slice AK nK cK, .slice AO nO cO]) := (Blk.new' rfl).ext he1
  have HX1 := Lib.hid (((Ext.refl w).alloc _).trans he1)
  clear he1 HCC
  obtain ⟨SE, hSE⟩ : ∃ SE, SE = styE x := ⟨_, rfl⟩
  rw [← hSE] at HSP ⊢
  clear hSE
  by_cases hz : SE = 0
  rotate_left
  · have hzb : (SE != 0) = true := by simp [hz]
    have HR : Hid (SP = SE) := by show _ = _; rw [HSP.out, if_pos hz]
    clear hz
    go_wp2_with fail
    go_ret
    exact ⟨ret_int HR.out.symm, HX1.out⟩
  subst hz
  by_cases h16 : 16 < n
  · have HR : Hid (SP = 5) := by show _ = _; rw [HSP.out, if_neg (by simp), if_pos (by rw [HL.out]; exact h16)]
    go_wp2_with fail
    go_ret
    exact ⟨ret_int HR.out.symm, HX1.out⟩
  have HR1 : Hid (SP = firstE (pomE x l) l.length) := by show _ = _; rw [HSP.out, if_neg (by simp), if_neg (by rw [HL.out]; exact h16)]
  clear HSP
  go_wp2_with fail
  go_loopw [6] (fun i wr => ∃ k : Nat, k ≤ n ∧ i = .int .i64 k ∧ firstE (pomE x l) k = 0 ∧ Ext w1 wr) (fun i _ => n - (intOf i).toNat)
  case atStart => exact ⟨0, Nat.zero_le _, rfl, rfl, Ext.refl _⟩
  case round =>
    obtain ⟨k, hk, rfl, hall, hx⟩ := hrel
    have HALL := Lib.hid hall; have HX := Lib.hid hx; clear hall hx
    by_cases hlt : k < n
    rotate_left
    · obtain rfl : k = n := by omega
      have HR : Hid (SP = 0) := by show _ = _; rw [HR1.out, HL.out]; exact HALL.out
      go_wp2_with fail
      go_ret
      exact ⟨ret_int HR.out.symm, HX1.out.trans HX.out⟩
    have HKL : Hid (k < l.length) := by show _ < _; rw [HL.out]; exact hlt
    obtain ⟨bp, op, q, hA, hq, hcq⟩ := (HP.out.ext (HX1.out.trans HX.out)) k HKL.out
    subst hA
    have HQ := Lib.hid hq; clear hq
    obtain ⟨pn, pAP, pnP, pcP, pAE, pnE, pcE, ppl, pmi⟩ := q
    have HQN : Hid ((gPm l k).nm = pn) := HQ.out.nm.symm
    have HQP : Hid ((gPm l k).ps.length = pnP) := HQ.out.lP
    have HQE : Hid ((gPm l k).es.length = pnE) := HQ.out.lE
    have hbq : pnP ≤ 9223372036854775807 := HQ.out.bP
    obtain ⟨a0, a1, a2, a3, a4⟩ := hcq
    simp only at a0 a1 a2 a3 a4
    have HPE := Lib.hid (pom_eq x l k)
    rw [HQN.out, HQE.out, HQP.out] at HPE
    have HFA : Hid (pomE x l k ≠ 0 → SP = pomE x l k) := fun h => by rw [HR1.out, firstE_at HKL.out HALL.out h]
    obtain ⟨PE, hPE⟩ : ∃ PE, PE = pomE x l k := ⟨_, rfl⟩
    rw [← hPE] at HPE HFA
    have HPD := Lib.hid hPE; clear hPE
    go_upto_region 10 with fail
    refine wp_at fun wq hWq => ?_
    have hNb : Blk 36 wq wr.heap.size [.string pn, .slice pAP pnP pcP, .slice pAE pnE pcE, .int .i64 ppl, .int .i64 pmi] := by rw [hWq]; exact Blk.new' rfl
    have hxq : Ext wr wq := by rw [hWq]; exact (Ext.refl _).alloc _
    obtain ⟨nb, hnb⟩ : ∃ nb, nb = wr.heap.size := ⟨_, rfl⟩
    rw [← hnb] at hNb ⊢
    have HNB := Lib.hid hNb
    have HXq := Lib.hid (HX.out.trans hxq)
    have HQ' := Lib.hid (HQ.out.ext hxq)
    clear hWq hnb hxq hNb HX a0 a1 a2 a3 a4 HQ
    obtain ⟨a0, a1, a2, a3, a4⟩ := blk5 HNB.out
    go_wp2_with fail
    refine (rname_any pn _).mono ?_
    rintro e w2 ⟨rfl, hw2⟩
    obtain rfl : wq = w2 := hw2
    cases hnb : nameB pn
    · have HR : Hid (SP = 1) := by
        have h1 : PE = 1 := by rw [HPE.out, if_pos (Or.inl hnb)]
        show _ = _; rw [HFA.out (by rw [h1]; decide), h1]
      clear hnb
      go_wp2_with fail
      go_ret
      exact ⟨ret_int HR.out.symm, HX1.out.trans HXq.out⟩
    by_cases g1 : pnE = pnP
    rotate_left
    · have HR : Hid (SP = 1) := by
        have h1 : PE = 1 := by rw [HPE.out, if_pos (Or.inr (Or.inl g1))]
        show _ = _; rw [HFA.out (by rw [h1]; decide), h1]
      have g1b : ((pnP : Int) != (pnE : Int)) = true := by simp; omega
      clear hnb g1
      go_wp2_with fail
      go_ret
      exact ⟨ret_int HR.out.symm, HX1.out.trans HXq.out⟩
    have HEQ := Lib.hid g1
    have g1b : ((pnP : Int) != (pnE : Int)) = false := by simp; omega
    by_cases g2 : pnP = 0
    · have HR : Hid (SP = 1) := by
        have h1 : PE = 1 := by rw [HPE.out, if_pos (Or.inr (Or.inr (Or.inl g2)))]
        show _ = _; rw [HFA.out (by rw [h1]; decide), h1]
      have g2b : ((pnE : Int) == 0) = true := by simp; omega
      clear hnb g1 g2
      go_wp2_with fail
      go_ret
      exact ⟨ret_int HR.out.symm, HX1.out.trans HXq.out⟩
    have g2b : ((pnE : Int) == 0) = false := by simp; omega
    by_cases g3 : 16 < pnP
    · have HR : Hid (SP = 1) := by
        have h1 : PE = 1 := by rw [HPE.out, if_pos (Or.inr (Or.inr (Or.inr g3)))]
        show _ = _; rw [HFA.out (by rw [h1]; decide), h1]
      have g3b : 16 < pnE := by omega
      clear hnb g1 g2
      go_wp2_with fail
      go_ret
      exact ⟨ret_int HR.out.symm, HX1.out.trans HXq.out⟩
    have HPE1 : Hid (PE = pm1 x l k) := by show _ = _; rw [HPE.out, if_neg (by rw [hnb]; simp; omega)]
    have g3b : ¬ 16 < pnE := by omega
    clear hnb g1 HPE
    have hkc : k ≤ c := by omega
    go_wp2_with fail
    clear a0 a1 a2 a3 a4 g2b g1b
    go_loopw [8] (fun i wr => ∃ j : Nat, j ≤ k ∧ i = .int .i64 j ∧ (∀ q, q < j → mdupF l k q = false) ∧ Ext wq wr) (fun i _ => k - (intOf i).toNat)
    case atStart => exact ⟨0, Nat.zero_le _, rfl, fun q hq => absurd hq (Nat.not_lt_zero _), Ext.refl _⟩
    case round =>
      obtain ⟨j, hj, rfl, hall, hx⟩ := hrel
      have HAL2 := Lib.hid hall; have HX := Lib.hid hx; clear hall hx
      obtain ⟨a0, a1, a2, a3, a4⟩ := blk5 (HNB.out.ext HX.out)
      by_cases hjk : j < k
      · obtain ⟨bp', op', q, hA, hq, hcq⟩ := (HP.out.ext ((HX1.out.trans HXq.out).trans HX.out)) j (by have := HKL.out; omega)
        injection hA with hA
        injection hA with e1 e2
        subst e1; subst e2
        have HQJ : Hid ((gPm l j).nm = q.nm) := hq.nm.symm
        clear hq
        obtain ⟨qn, qAP, qnP, qcP, qAE, qnE, qcE, qpl, qmi⟩ := q
        obtain ⟨b0, b1, b2, b3, b4⟩ := hcq
        simp only at b0 b1 b2 b3 b4 HQJ
        cases heq : (qn.toList == pn.toList)
        · have HD : Hid (mdupF l k j = false) := by show _ = _; unfold mdupF; rw [HQJ.out, HQN.out, ← str_eq]; exact heq
          go_wp2_with fail
          go_quiet (fail)
          go_wp2_with fail
          go_roundw
          case rel => exact ⟨j + 1, by omega, by go_num, fun q hq => by
            rcases Nat.lt_succ_iff_lt_or_eq.1 hq with h | h
            · exact HAL2.out q h
            · subst h; exact HD.out, HX.out.drewN _⟩
          case measure => simp [intOf]; omega
        · have HD : Hid (mdupF l k j = true) := by show _ = _; unfold mdupF; rw [HQJ.out, HQN.out, ← str_eq]; exact heq
          have HR : Hid (SP = 7) := by
            have h1 : PE = 7 := by rw [HPE1.out]; unfold pm1; rw [if_pos (any_at hjk HD.out)]
            show _ = _; rw [HFA.out (by rw [h1]; decide), h1]
          go_wp2_with fail
          go_quiet (fail)
          go_wp2_with fail
          go_ret
          exact ⟨ret_int HR.out.symm, (HX1.out.trans HXq.out).trans (HX.out.drewN _)⟩
      obtain rfl : j = k := by omega
      have HPE2 : Hid (PE = pm2 x (gPm l j)) := by show _ = _; rw [HPE1.out]; unfold pm1; rw [if_neg (by rw [any_none HAL2.out]; simp)]
      clear HAL2 HPE1 hjk hj
      obtain ⟨c0, c1, c2, c3, c4, c5, c6⟩ := blk7 (HB1.out.ext (HXq.out.trans HX.out))
      go_wp2_with fail
      refine (HCI.out _ ⟨pn, pAP, pnP, pcP, pAE, pnE, pcE, ppl, pmi⟩ (gPm l j) ((HX1.out.trans HXq.out).trans HX.out) (HQ'.out.ext HX.out) (by rw [HQE.out, HQP.out]; exact HEQ.out)).mono ?_
      rintro e w3 ⟨rfl, he3⟩
      have HX3 := Lib.hid he3; clear he3
      clear a0 a1 a2 a3 a4 c0 c1 c2 c3 c4 c5 c6
      obtain ⟨IB, hIB⟩ : ∃ IB, IB = insB x (gPm l j) := ⟨_, rfl⟩
      rw [← hIB]
      have HIB := Lib.hid hIB; clear hIB
      cases IB
      · have HR : Hid (SP = 3) := by
          have h0 : pm2 x (gPm l j) = 3 := (pm2_or x (gPm l j)).resolve_right fun h => by rw [ins_yes h] at HIB; exact absurd HIB.out (by decide)
          have h1 : PE = 3 := by rw [HPE2.out, h0]
          show _ = _; rw [HFA.out (by rw [h1]; decide), h1]
        go_wp2_with fail
        go_ret
        exact ⟨ret_int HR.out.symm, ((HX1.out.trans HXq.out).trans HX.out).trans HX3.out⟩
      · have HZ : Hid (pomE x l j = 0) := by
          have h0 : pm2 x (gPm l j) = 0 := (pm2_or x (gPm l j)).resolve_left fun h => by rw [ins_no h] at HIB; exact absurd HIB.out (by decide)
          show _ = _; rw [← HPD.out, HPE2.out, h0]
        go_wp2_with fail
        go_roundw
        case rel => exact ⟨j + 1, by omega, by go_num, firstE_succ HALL.out HZ.out, (HXq.out.trans HX.out).trans HX3.out⟩
        case measure => simp [intOf]; omega
end Go.Proofs.YtkigmpholnfkbaaGreat
/- garmentref52.Target -/
namespace Go.Proofs.YtkigmpholnfkbaaGreat
open Go.RowKit
set_option maxRecDepth 100000 in
set_option maxHeartbeats 3200000 in
theorem rtarg_any (a : StyA) (x : StyX) (q : PomA) (p : PomX) (z : Int) (w : World) (hs : StyXAt w a x) (hN : x.sz.length ≤ 1000) (hZ : ∀ k, k < x.sz.length → (gB x.sz k).size ≤ 1000) (hL : ∀ k, k < x.ps.length → (gPx x.ps k).p.es.length ≤ 1000 ∧ (gPx x.ps k).p.cs.length ≤ 1000) (hp : PomAt w q p) :
    Calls Tryz.prog 16 #[a.val, q.val, .int .i64 z] w (RetTg w (targV x p z) (targE x p z)) := by
  have HS := Lib.hid hs
  have HQ := Lib.hid hp
  have HCC := Lib.hid (fun W g (h : Ext w W) (hb : Blk 36 W g (PomA.cells q)) => r52Check_any a x (some ⟨g, 0, none⟩) 1 1 [p] W (hs.ext h) hN hZ hL (poms_one hb (hp.ext h)) rfl (Nat.le_refl _) (by omega))
  have HCT := Lib.hid (fun (hok : PomOk x p) W Z (h : Ext w W) (hz : Z < x.ms.length) => rsum_any a x q p Z W (hs.ext h) hz hL (hp.ext h) hok.le hok.n1 hok.rf)
  clear hs hp hN hZ hL
  obtain ⟨nm, AS, nS, cS, AM, nM, cM, AP, nP, cP, AU, nU, cU, AK, nK, cK, AO, nO, cO⟩ := a
  have HLS : Hid (x.sz.length = nS) := HS.out.lS
  have HLM : Hid (x.ms.length = nM) := HS.out.lM
  have HMS := Lib.hid HS.out.M
  have hbS : nS ≤ 9223372036854775807 := HS.out.bS
  clear HS HQ
  obtain ⟨pn, pAP, pnP, pcP, pAE, pnE, pcE, ppl, pmi⟩ := q
  simp only [StyA.val, PomA.val, PomA.cells] at HMS HCC HCT ⊢
  have HT1 := Lib.hid (@targ_1 x p z)
  have HT2 := Lib.hid (@targ_2 x p z)
  have HT3 := Lib.hid (@targ_3 x p z)
  have HS1 := Lib.hid (@spcE_one x p)
  obtain ⟨TE, hTE⟩ : ∃ y, y = targE x p z := ⟨_, rfl⟩
  obtain ⟨TV, hTV⟩ : ∃ y, y = targV x p z := ⟨_, rfl⟩
  rw [← hTE, ← hTV] at HT1 HT2 HT3 ⊢
  clear hTE hTV
  go_enter Tryz.func16, Tryz.ntmps16
  go_wp2_with fail
  refine (HCC.out _ (w.heap.size + 1 + 1) ((((Ext.refl _).alloc _).alloc _).alloc _) (Blk.new' (by simp))).mono ?_
  rintro e w1 ⟨rfl, he1⟩
  have HB1 : Hid (Blk 29 w1 w.heap.size [.string nm, .slice AS nS cS, .slice AM nM cM, .slice AP nP cP, .slice AU nU cU, .slice AK nK cK, .slice AO nO cO]) := (((Blk.new' rfl).ext ((Ext.refl _).alloc _)).ext ((Ext.refl _).alloc _)).ext he1
  have HN1 : Hid (Blk 36 w1 (w.heap.size + 1) [.string pn, .slice pAP pnP pcP, .slice pAE pnE pcE, .int .i64 ppl, .int .i64 pmi]) := ((Blk.new' (by simp)).ext ((Ext.refl _).alloc _)).ext he1
  have HX1 : Hid (Ext w w1) := ((((Ext.refl _).alloc _).alloc _).alloc _).trans he1
  clear he1 HCC
  obtain ⟨SP, hSP⟩ : ∃ y, y = spcE x [p] := ⟨_, rfl⟩
  rw [← hSP] at HT1 HT2 HT3 HS1 ⊢
  clear hSP
  by_cases hz : SP = 0
  rotate_left
  · have HR := Lib.hid (HT1.out hz)
    have hzb : (SP != 0) = true := by simp [hz]
    clear hz
    go_wp2_with fail
    go_ret2
    exact ⟨by rw [HR.out.1, HR.out.2]; rfl, HX1.out⟩
  obtain ⟨hse, hok⟩ := HS1.out.1 hz
  have HML : Hid (nM = nS) := by show _ = _; rw [← HLM.out, ← HLS.out]; exact sty_ms hse
  have HCU := Lib.hid (HCT.out hok)
  have HT2' := Lib.hid (HT2.out hz)
  have HT3' := Lib.hid (HT3.out hz)
  rw [HLS.out] at HT2' HT3'
  subst hz
  clear HT1 HT2 HT3 HS1 HCT hse hok
  obtain ⟨c0, c1, c2, c3, c4, c5, c6⟩ := blk7 HB1.out
  by_cases g0 : z < 0
  · have HR := Lib.hid (HT2'.out (Or.inl g0))
    go_wp2_with fail
    go_ret2
    exact ⟨by rw [HR.out.1, HR.out.2]; rfl, HX1.out⟩
  by_cases g1 : (nS : Int) ≤ z
  · have HR := Lib.hid (HT2'.out (Or.inr g1))
    go_wp2_with fail
    go_ret2
    exact ⟨by rw [HR.out.1, HR.out.2]; rfl, HX1.out⟩
  have HR := Lib.hid (HT3'.out (by omega))
  clear HT2' HT3'
  obtain ⟨Z, rfl⟩ := Int.eq_ofNat_of_zero_le (show 0 ≤ z by omega)
  rw [Int.toNat_natCast] at HR
  have hZM : Z < nM := by have := HML.out; omega
  obtain ⟨M, hM⟩ : ∃ M, M = gI x.ms Z := ⟨_, rfl⟩
  rw [← hM] at HR
  obtain ⟨a0, a1, a2, a3, a4⟩ := blk5 HN1.out
  obtain ⟨ME, hME⟩ : ∃ y, y = tgE x p M := ⟨_, rfl⟩
  obtain ⟨MV, hMV⟩ : ∃ y, y = tgV x p M := ⟨_, rfl⟩
  rw [← hME, ← hMV] at HR
  have HCV : Hid (∀ W, Ext w1 W → Calls Tryz.prog 36 #[.agg #[.string nm, .slice AS nS cS, .slice AM nM cM, .slice AP nP cP, .slice AU nU cU, .slice AK nK cK, .slice AO nO cO], .agg #[.string pn, .slice pAP pnP pcP, .slice pAE pnE pcE, .int .i64 ppl, .int .i64 pmi], .int .i64 (Z : Int)] W fun e w' => e = .returned (.tuple #[.int .i64 MV, .int .i64 ME]) ∧ Ext W w') := fun W h => by
    rw [hME, hMV, hM]; exact HCU.out W Z (HX1.out.trans h) (by rw [HLM.out]; exact hZM)
  clear hME hMV HCU hM
  go_wp2_with fail
  refine (HCV.out _ (Ext.refl _)).mono ?_
  rintro e w4 ⟨rfl, he4⟩
  have HX4 := Lib.hid (HX1.out.trans he4)
  clear a0 a1 a2 a3 a4 c0 c1 c2 c3 c4 c5 c6 he4 HCV
  go_wp2_with fail
  go_ret2
  exact ⟨by rw [HR.out.1, HR.out.2]; rfl, HX4.out⟩
end Go.Proofs.YtkigmpholnfkbaaGreat
/- the law SpecChecks, walked -/
namespace Go.Proofs.YtkigmpholnfkbaaGreat
open Go.RowKit
theorem LtX.ll {x : StyX} (h : LtX x) : ∀ k, k < x.ps.length → (gPx x.ps k).p.es.length ≤ 1000 ∧ (gPx x.ps k).p.cs.length ≤ 1000 := fun k hk => ⟨Nat.le_trans (h.p k hk).1.e (by omega), Nat.le_trans (h.p k hk).1.c (by omega)⟩
set_option maxRecDepth 100000 in
set_option maxHeartbeats 6400000 in
theorem checksL_any (a : StyA) (x : StyX) (A : Option Addr) (n c : Nat) (l : List PomX) (w : World) (hs : StyXAt w a x)
    (hP : PomsAt w A l) (hl : l.length = n) (hc : n ≤ c) (hc' : c ≤ 9223372036854775807) :
    Calls Tryz.prog 3 #[a.val, .slice A n c] w fun e w' => e = .returned (.bool true) ∧ Ext w w' := by
  have HSM := Lib.hid (fun W (h : Ext w W) => small_any a x A n c l W (hs.ext h) (hP.ext h) hl (Nat.le_trans hc hc'))
  have HCA := Lib.hid (fun (hlt : LtX x) W (h : Ext w W) => spCheck_any a x A n c l W (hs.ext h) hlt.n hlt.zz (hP.ext h) hl hc hc')
  have HCB := Lib.hid (fun (hlt : LtX x) W (h : Ext w W) => r52Check_any a x A n c l W (hs.ext h) hlt.n hlt.zz hlt.ll (hP.ext h) hl hc hc')
  clear hs hP hl
  obtain ⟨nm, AS, nS, cS, AM, nM, cM, AP, nP, cP, AU, nU, cU, AK, nK, cK, AO, nO, cO⟩ := a
  simp only [StyA.val] at HSM HCA HCB ⊢
  obtain ⟨SP, hSP⟩ : ∃ y, y = spcE x l := ⟨_, rfl⟩
  rw [← hSP] at HCA HCB
  clear hSP
  go_enter Tryz.func3, Tryz.ntmps3
  go_wp2_with fail
  refine (HSM.out _ ((Ext.refl _).alloc _)).mono ?_
  rintro e w1 ⟨b, rfl, he1, hb⟩
  have HB1 : Hid (Blk 29 w1 w.heap.size [.string nm, .slice AS nS cS, .slice AM nM cM, .slice AP nP cP, .slice AU nU cU, .slice AK nK cK, .slice AO nO cO]) := (Blk.new' rfl).ext he1
  have HX1 := Lib.hid (((Ext.refl w).alloc _).trans he1)
  have HB := Lib.hid hb
  clear he1 hb HSM
  cases b
  · go_wp2_with fail
    refine (awake_any _).mono ?_
    rintro e w2 ⟨rfl, he2⟩
    go_wp2_with fail
    go_ret
    exact ⟨rfl, HX1.out.trans he2⟩
  obtain ⟨hlt, hfw⟩ := HB.out rfl
  have HA : Hid (∀ W, Ext w1 W → _) := Lib.hid (fun W (h : Ext w1 W) => HCA.out hlt W (HX1.out.trans h))
  have HBB : Hid (∀ W, Ext w1 W → _) := Lib.hid (fun W (h : Ext w1 W) => HCB.out hlt W (HX1.out.trans h))
  clear HCA HCB hlt hfw HB
  obtain ⟨c0, c1, c2, c3, c4, c5, c6⟩ := blk7 HB1.out
  have z0 := fun z : After w1 => After.cell c0 z
  have z1 := fun z : After w1 => After.cell c1 z
  have z2 := fun z : After w1 => After.cell c2 z
  have z3 := fun z : After w1 => After.cell c3 z
  have z4 := fun z : After w1 => After.cell c4 z
  have z5 := fun z : After w1 => After.cell c5 z
  have z6 := fun z : After w1 => After.cell c6 z
  have hee : (SP == SP) = true := by simp
  go_wp2_with fail
  refine region_ext (by kernel_rfl) (by kernel_rfl) ?_
  repeat (first
    | go_big_quiet_step (first
      | (go_at_call 13; exact after_call (HA.out _ (After.ext _)))
      | (go_at_call 14; exact after_call (HBB.out _ (After.ext _)))
      | (go_at_call 12; exact after_call (awake_any _)))
    | (go_big_quiet_want; go_simp; go_big_quiet_on))
  refine wpQuiet_nil ?_
  rintro w4 ⟨⟨_, he4⟩, rfl⟩
  go_wp2_with fail
  go_ret
  exact ⟨rfl, HX1.out.trans he4⟩
end Go.Proofs.YtkigmpholnfkbaaGreat
namespace Go.Proofs.YtkigmpholnfkbaaGreat
open Go.RowKit
set_option maxRecDepth 100000 in
set_option maxHeartbeats 6400000 in
theorem targetsL_any (a : StyA) (x : StyX) (q : PomA) (p : PomX) (z : Int) (w : World) (hs : StyXAt w a x) (hp : PomAt w q p) :
    Calls Tryz.prog 4 #[a.val, q.val, .int .i64 z] w fun e w' => e = .returned (.bool true) ∧ Ext w w' := by
  have HSM := Lib.hid (fun W g (h : Ext w W) (hb : Blk 36 W g (PomA.cells q)) => small_any a x (some ⟨g, 0, none⟩) 1 1 [p] W (hs.ext h) (poms_one hb (hp.ext h)) rfl (by omega))
  have HTA := Lib.hid (fun (hlt : LtX x) W (h : Ext w W) => targX_any a x q p z W (hs.ext h) hlt.n hlt.zz (hp.ext h))
  have HTB := Lib.hid (fun (hlt : LtX x) W (h : Ext w W) => rtarg_any a x q p z W (hs.ext h) hlt.n hlt.zz hlt.ll (hp.ext h))
  clear hs hp
  obtain ⟨nm, AS, nS, cS, AM, nM, cM, AP, nP, cP, AU, nU, cU, AK, nK, cK, AO, nO, cO⟩ := a
  obtain ⟨pn, pAP, pnP, pcP, pAE, pnE, pcE, ppl, pmi⟩ := q
  simp only [StyA.val, PomA.val, PomA.cells] at HSM HTA HTB ⊢
  obtain ⟨TV, hTV⟩ : ∃ y, y = targV x p z := ⟨_, rfl⟩
  obtain ⟨TE, hTE⟩ : ∃ y, y = targE x p z := ⟨_, rfl⟩
  rw [← hTV, ← hTE] at HTA HTB
  clear hTV hTE
  go_enter Tryz.func4, Tryz.ntmps4
  go_wp2_with fail
  refine (HSM.out _ (w.heap.size + 1 + 1) ((((Ext.refl _).alloc _).alloc _).alloc _) (Blk.new' (by simp))).mono ?_
  rintro e w1 ⟨b, rfl, he1, hb⟩
  have HB1 : Hid (Blk 29 w1 w.heap.size [.string nm, .slice AS nS cS, .slice AM nM cM, .slice AP nP cP, .slice AU nU cU, .slice AK nK cK, .slice AO nO cO]) := (((Blk.new' rfl).ext ((Ext.refl _).alloc _)).ext ((Ext.refl _).alloc _)).ext he1
  have HN1 : Hid (Blk 36 w1 (w.heap.size + 1) [.string pn, .slice pAP pnP pcP, .slice pAE pnE pcE, .int .i64 ppl, .int .i64 pmi]) := ((Blk.new' (by simp)).ext ((Ext.refl _).alloc _)).ext he1
  have HX1 : Hid (Ext w w1) := ((((Ext.refl _).alloc _).alloc _).alloc _).trans he1
  have HB := Lib.hid hb
  clear he1 hb HSM
  cases b
  · go_wp2_with fail
    refine (awake_any _).mono ?_
    rintro e w2 ⟨rfl, he2⟩
    go_wp2_with fail
    go_ret
    exact ⟨rfl, HX1.out.trans he2⟩
  obtain ⟨hlt, hfw⟩ := HB.out rfl
  have HA := Lib.hid (HTA.out hlt)
  have HBB := Lib.hid (HTB.out hlt)
  clear HTA HTB hlt hfw HB
  obtain ⟨c0, c1, c2, c3, c4, c5, c6⟩ := blk7 HB1.out
  obtain ⟨a0, a1, a2, a3, a4⟩ := blk5 HN1.out
  go_wp2_with fail
  refine (HA.out _ HX1.out).mono ?_
  rintro e w2 ⟨rfl, he2⟩
  have HX2 := Lib.hid (HX1.out.trans he2)
  have HB2 := Lib.hid (HB1.out.ext he2)
  have HN2 := Lib.hid (HN1.out.ext he2)
  clear c0 c1 c2 c3 c4 c5 c6 a0 a1 a2 a3 a4 he2 HA HB1 HN1
  obtain ⟨c0, c1, c2, c3, c4, c5, c6⟩ := blk7 HB2.out
  obtain ⟨a0, a1, a2, a3, a4⟩ := blk5 HN2.out
  go_wp2_with fail
  refine (HBB.out _ HX2.out).mono ?_
  rintro e w3 ⟨rfl, he3⟩
  have HX3 := Lib.hid (HX2.out.trans he3)
  clear c0 c1 c2 c3 c4 c5 c6 a0 a1 a2 a3 a4 he3 HBB HB2 HN2
  have h1 : (TV == TV) = true := by simp
  have h2 : (TE == TE) = true := by simp
  go_wp2_with fail
  refine (awake_any _).mono ?_
  rintro e w4 ⟨rfl, he4⟩
  go_wp2_with fail
  go_ret
  exact ⟨rfl, HX3.out.trans he4⟩
end Go.Proofs.YtkigmpholnfkbaaGreat
