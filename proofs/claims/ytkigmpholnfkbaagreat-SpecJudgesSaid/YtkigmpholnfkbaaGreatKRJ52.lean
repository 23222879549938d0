/- garmentref52.judged, Judge -/
import Derived.Test.YtkigmpholnfkbaaGreatKRS25
import Derived.Test.YtkigmpholnfkbaaGreatKSpK
/- garmentref52: inside -/
namespace Go.Proofs.YtkigmpholnfkbaaGreat
open Go.RowKit
def insB (x : StyX) (p : PomX) : Bool := decide (pm2 x p = 0)
theorem ins_no {x : StyX} {p : PomX} (h : pm2 x p = 3) : insB x p = false := by unfold insB; rw [h]; rfl
theorem ins_yes {x : StyX} {p : PomX} (h : pm2 x p = 0) : insB x p = true := by unfold insB; rw [h]; rfl
theorem pm2_or (x : StyX) (p : PomX) : pm2 x p = 3 ∨ pm2 x p = 0 := by
  unfold pm2 pm3
  split
  · exact Or.inl rfl
  · split
    · exact Or.inl rfl
    · exact Or.inr rfl
set_option maxRecDepth 100000 in
set_option maxHeartbeats 6400000 in
theorem rins_any (a : StyA) (x : StyX) (q : PomA) (p : PomX) (w : World) (hs : StyXAt w a x) (hp : PomAt w q p) (hes : p.es.length = p.ps.length) :
    Calls Tryz.prog 34 #[a.val, q.val] w fun e w' => e = .returned (.bool (insB x p)) ∧ Ext w w' := by
  have HS := Lib.hid hs
  have HP := Lib.hid hp
  clear hs hp
  obtain ⟨nm, AS, nS, cS, AM, nM, cM, AP, nP, cP, AU, nU, cU, AK, nK, cK, AO, nO, cO⟩ := a
  have HLP : Hid (x.ps.length = nP) := HS.out.lP
  have hbP : nP ≤ 9223372036854775807 := HS.out.bP
  have HPS := Lib.hid HS.out.P
  clear HS
  obtain ⟨pn, pAP, pnP, pcP, pAE, pnE, pcE, ppl, pmi⟩ := q
  have HQP : Hid (p.ps.length = pnP) := HP.out.lP
  have HQE : Hid (p.es.length = pnE) := HP.out.lE
  have HQL : Hid (p.pl = ppl) := HP.out.pl.symm
  have HQM : Hid (p.mi = pmi) := HP.out.mi.symm
  have HQA := Lib.hid HP.out.P
  have HQB := Lib.hid HP.out.E
  have hbq : pnP ≤ 9223372036854775807 := HP.out.bP
  obtain rfl : pnP = pnE := by have := HQP.out; have := HQE.out; omega
  clear HP hes
  simp only [StyA.val, PomA.val] at HPS HQA HQB ⊢
  obtain ⟨IB, hIB⟩ : ∃ IB, IB = insB x p := ⟨_, rfl⟩
  rw [← hIB]
  have HIB := Lib.hid hIB; clear hIB
  go_enter Tryz.func34, Tryz.ntmps34
  go_upto_region 1 with fail
  refine wp_at fun W0 hW0 => ?_
  obtain ⟨hb0, hh0⟩ : ∃ z, z = w.heap.size := ⟨_, rfl⟩
  have HB0 : Hid (Blk 29 W0 w.heap.size [.string nm, .slice AS nS cS, .slice AM nM cM, .slice AP nP cP, .slice AU nU cU, .slice AK nK cK, .slice AO nO cO]) := by show Blk _ _ _ _; rw [hW0]; exact (Blk.new' rfl).ext ((Ext.refl _).alloc _)
  have HN0 : Hid (Blk 36 W0 (w.heap.size + 1) [.string pn, .slice pAP pnP pcP, .slice pAE pnP pcE, .int .i64 ppl, .int .i64 pmi]) := by show Blk _ _ _ _; rw [hW0]; exact Blk.new' (by simp)
  have HX0 : Hid (Ext w W0) := by show Ext _ _; rw [hW0]; exact ((Ext.refl _).alloc _).alloc _
  clear hW0 hh0
  go_wp2_with fail
  go_loopw [5] (fun i wr => ∃ m : Nat, m ≤ pnP ∧ i = .int .i64 m ∧ allB (pomRef x p) m = true ∧ Ext W0 wr) (fun i _ => pnP - (intOf i).toNat)
  case atStart => exact ⟨0, Nat.zero_le _, rfl, rfl, Ext.refl _⟩
  case round =>
    obtain ⟨m, hm, rfl, hall, hx⟩ := hrel
    have HAL3 := Lib.hid hall; have HX := Lib.hid hx; clear hall hx
    obtain ⟨a0, a1, a2, a3, a4⟩ := blk5 (HN0.out.ext HX.out)
    obtain ⟨c0, c1, c2, c3, c4, c5, c6⟩ := blk7 (HB0.out.ext HX.out)
    by_cases hmn : m < pnP
    · obtain ⟨bi, oi, hAI, i0⟩ := (HQA.out.ext (HX0.out.trans HX.out)).g (k := m) (by rw [HQP.out]; exact hmn)
      subst hAI
      obtain ⟨be, oe, hAE, e0⟩ := (HQB.out.ext (HX0.out.trans HX.out)).g (k := m) (by rw [HQE.out]; exact hmn)
      subst hAE
      have HRF : Hid (pomRef x p m = edgeB x.s (gI p.ps m) (gI p.es m)) := rfl
      have HFL : Hid (pomRef x p m = false → IB = false) := fun h => by
        rw [HIB.out]; exact ins_no (by unfold pm2; rw [if_pos (by rw [HQP.out]; exact allB_false hmn h)])
      obtain ⟨pc, hpc⟩ : ∃ pc, pc = gI p.ps m := ⟨_, rfl⟩
      obtain ⟨ed, hed⟩ : ∃ ed, ed = gI p.es m := ⟨_, rfl⟩
      rw [← hpc] at i0 HRF
      rw [← hed] at e0 HRF
      clear hpc hed
      by_cases q0 : pc < 0
      · have HR := Lib.hid (HFL.out (by rw [HRF.out]; exact edge_no (by omega)))
        have q0b : decide (pc < 0) = true := decide_eq_true q0
        go_wp2_with fail
        go_quiet (fail)
        go_wp2_with fail
        go_ret
        exact ⟨ret_bool HR.out.symm, HX0.out.trans (HX.out.drewN _)⟩
      have q0b : decide (pc < 0) = false := decide_eq_false q0
      by_cases q1 : (nP : Int) ≤ pc
      · have HR := Lib.hid (HFL.out (by rw [HRF.out]; exact edge_no (by rw [sps_len, HLP.out]; omega)))
        have q1b : decide ((nP : Int) ≤ pc) = true := decide_eq_true q1
        go_wp2_with fail
        go_quiet (fail)
        go_wp2_with fail
        go_ret
        exact ⟨ret_bool HR.out.symm, HX0.out.trans (HX.out.drewN _)⟩
      have q1b : decide ((nP : Int) ≤ pc) = false := decide_eq_false q1
      by_cases q2 : ed < 0
      · have HR := Lib.hid (HFL.out (by rw [HRF.out]; exact edge_no (by omega)))
        have q2b : decide (ed < 0) = true := decide_eq_true q2
        go_wp2_with fail
        go_quiet (fail)
        go_wp2_with fail
        go_ret
        exact ⟨ret_bool HR.out.symm, HX0.out.trans (HX.out.drewN _)⟩
      have q2b : decide (ed < 0) = false := decide_eq_false q2
      obtain ⟨PC, rfl⟩ := Int.eq_ofNat_of_zero_le (show 0 ≤ pc by omega)
      have hPC : PC < nP := by omega
      have HPCL : Hid (PC < x.ps.length) := by show _ < _; rw [HLP.out]; exact hPC
      obtain ⟨bz, oz, q, hAZ, hq, hcq, _, _⟩ := (HPS.out.ext (HX0.out.trans HX.out)) PC HPCL.out
      subst hAZ
      have d1 := hcq.c1
      obtain ⟨zA, hzA⟩ : ∃ z, z = q.AE := ⟨_, rfl⟩
      obtain ⟨zn, hzn⟩ : ∃ z, z = q.nE := ⟨_, rfl⟩
      obtain ⟨zc, hzc⟩ : ∃ z, z = q.cE := ⟨_, rfl⟩
      rw [← hzA, ← hzn, ← hzc] at d1
      have HZN : Hid ((gPx x.ps PC).p.es.length = zn) := by show _ = _; rw [hzn]; exact hq.le
      clear hq hcq hzA hzn hzc
      by_cases q3 : (zn : Int) ≤ ed
      · have HR := Lib.hid (HFL.out (by rw [HRF.out]; exact edge_no (by rw [Int.toNat_natCast, sps_get HPCL.out, HZN.out]; omega)))
        have q3b : decide ((zn : Int) ≤ ed) = true := decide_eq_true q3
        go_wp2_with fail
        go_quiet (fail)
        go_wp2_with fail
        go_ret
        exact ⟨ret_bool HR.out.symm, HX0.out.trans (HX.out.drewN _)⟩
      have q3b : decide ((zn : Int) ≤ ed) = false := decide_eq_false q3
      have HRT : Hid (pomRef x p m = true) := by show _ = _; rw [HRF.out]; exact edge_yes (by rw [Int.toNat_natCast, sps_get HPCL.out, HZN.out, sps_len, HLP.out]; omega)
      go_wp2_with fail
      go_quiet (fail)
      go_wp2_with fail
      go_roundw
      case rel => exact ⟨m + 1, by omega, by go_num, allB_succ HAL3.out HRT.out, HX.out.drewN _⟩
      case measure => simp [intOf]; omega
    obtain rfl : m = pnP := by omega
    have HPE3 : Hid (pm2 x p = if ppl < 0 ∨ 1073741824 < ppl ∨ pmi < 0 ∨ 1073741824 < pmi then 3 else 0) := by
      show _ = _; unfold pm2; rw [if_neg (by rw [HQP.out, HAL3.out]; simp)]; unfold pm3; rw [HQL.out, HQM.out]
    clear HAL3
    have HFL : Hid (ppl < 0 ∨ 1073741824 < ppl ∨ pmi < 0 ∨ 1073741824 < pmi → IB = false) := fun h => by
      rw [HIB.out]; exact ins_no (by rw [HPE3.out, if_pos h])
    have HFT : Hid (¬ (ppl < 0 ∨ 1073741824 < ppl ∨ pmi < 0 ∨ 1073741824 < pmi) → IB = true) := fun h => by
      rw [HIB.out]; exact ins_yes (by rw [HPE3.out, if_neg h])
    clear HIB
    by_cases q0 : 0 ≤ ppl
    rotate_left
    · have HR := Lib.hid (HFL.out (by omega))
      go_wp2_with fail
      go_ret
      exact ⟨ret_bool HR.out.symm, HX0.out.trans HX.out⟩
    by_cases q1 : ppl ≤ 1073741824
    rotate_left
    · have HR := Lib.hid (HFL.out (by omega))
      go_wp2_with fail
      go_ret
      exact ⟨ret_bool HR.out.symm, HX0.out.trans HX.out⟩
    by_cases q2 : 0 ≤ pmi
    rotate_left
    · have HR := Lib.hid (HFL.out (by omega))
      go_wp2_with fail
      go_ret
      exact ⟨ret_bool HR.out.symm, HX0.out.trans HX.out⟩
    by_cases q3 : pmi ≤ 1073741824
    rotate_left
    · have HR := Lib.hid (HFL.out (by omega))
      go_wp2_with fail
      go_ret
      exact ⟨ret_bool HR.out.symm, HX0.out.trans HX.out⟩
    have HR := Lib.hid (HFT.out (by omega))
    go_wp2_with fail
    go_ret
    exact ⟨ret_bool HR.out.symm, HX0.out.trans HX.out⟩
end Go.Proofs.YtkigmpholnfkbaaGreat
/- garmentref52.sum -/
namespace Go.Proofs.YtkigmpholnfkbaaGreat
open Go.RowKit
set_option maxRecDepth 100000 in
set_option maxHeartbeats 3200000 in
theorem rsum_any (a : StyA) (x : StyX) (q : PomA) (p : PomX) (Z : Nat) (w : World) (hs : StyXAt w a x) (hZM : Z < x.ms.length) (hL : ∀ k, k < x.ps.length → (gPx x.ps k).p.es.length ≤ 1000 ∧ (gPx x.ps k).p.cs.length ≤ 1000) (hp : PomAt w q p) (hes : p.es.length = p.ps.length) (h16 : p.ps.length ≤ 16)
    (hrf : ∀ k, k < p.ps.length → edgeB x.s (gI p.ps k) (gI p.es k) = true) :
    Calls Tryz.prog 36 #[a.val, q.val, .int .i64 (Z : Int)] w (RetTg w (tgV x p (gI x.ms Z)) (tgE x p (gI x.ms Z))) := by
  have HS := Lib.hid hs
  have HP := Lib.hid hp
  have HRF := Lib.hid hrf
  have HLL := Lib.hid hL
  have HMS := Lib.hid hs.M
  have HZM := Lib.hid hZM
  clear hs hp hrf hL hZM
  obtain ⟨m, hm⟩ : ∃ m, m = gI x.ms Z := ⟨_, rfl⟩
  rw [← hm]
  have HMM := Lib.hid hm; clear hm
  obtain ⟨nm, AS, nS, cS, AM, nM, cM, AP, nP, cP, AU, nU, cU, AK, nK, cK, AO, nO, cO⟩ := a
  have HLP : Hid (x.ps.length = nP) := HS.out.lP
  have hbP : nP ≤ 9223372036854775807 := HS.out.bP
  have HPS := Lib.hid HS.out.P
  have HLM : Hid (x.ms.length = nM) := HS.out.lM
  have hZn : Z < nM := by have := HLM.out; have := HZM.out; omega
  have hbM : nM ≤ 9223372036854775807 := HS.out.bM
  clear HS
  obtain ⟨pn, pAP, pnP, pcP, pAE, pnE, pcE, ppl, pmi⟩ := q
  have HQP : Hid (p.ps.length = pnP) := HP.out.lP
  have HQE : Hid (p.es.length = pnE) := HP.out.lE
  have HQA := Lib.hid HP.out.P
  have HQB := Lib.hid HP.out.E
  have hn16 : pnP ≤ 16 := by have := HQP.out; omega
  obtain rfl : pnP = pnE := by have := HQP.out; have := HQE.out; omega
  clear HP hes h16
  simp only [StyA.val, PomA.val] at HPS HQA HQB HMS ⊢
  go_enter Tryz.func36, Tryz.ntmps36
  go_upto_region 1 with fail
  refine wp_at fun W0 hW0 => ?_
  have HB0 : Hid (Blk 29 W0 w.heap.size [.string nm, .slice AS nS cS, .slice AM nM cM, .slice AP nP cP, .slice AU nU cU, .slice AK nK cK, .slice AO nO cO]) := by show Blk _ _ _ _; rw [hW0]; exact (Blk.new' rfl).ext ((Ext.refl _).alloc _)
  have HN0 : Hid (Blk 36 W0 (w.heap.size + 1) [.string pn, .slice pAP pnP pcP, .slice pAE pnP pcE, .int .i64 ppl, .int .i64 pmi]) := by show Blk _ _ _ _; rw [hW0]; exact Blk.new' (by simp)
  have HX0 : Hid (Ext w W0) := by show Ext _ _; rw [hW0]; exact ((Ext.refl _).alloc _).alloc _
  clear hW0
  obtain ⟨a0, a1, a2, a3, a4⟩ := blk5 HN0.out
  go_wp2_with fail
  clear a0 a1 a2 a3 a4
  go_loopw [8, 9] (fun s i wr => ∃ k : Nat, k ≤ pnP ∧ i = .int .i64 k ∧ s = .int .i64 (tgTo x p m k : Int) ∧ firstE (tgR x p m) k = 0 ∧ Ext W0 wr) (fun _ i _ => pnP - (intOf i).toNat)
  case atStart => exact ⟨0, Nat.zero_le _, rfl, rfl, rfl, Ext.refl _⟩
  case round =>
    obtain ⟨k, hk, rfl, rfl, hall, hx⟩ := hrel
    have HALL := Lib.hid hall; have HX := Lib.hid hx; clear hall hx
    have hbd := tgTo_bd x p m k
    have HTS : Hid (tgTo x p m (k + 1) = tgTo x p m k + tgN x p m k) := rfl
    obtain ⟨S, hS⟩ : ∃ S, S = tgTo x p m k := ⟨_, rfl⟩
    rw [← hS] at hbd HTS ⊢
    have hSb : S ≤ 16000000000000 := by omega
    have HSS := Lib.hid hS
    clear hbd hS
    obtain ⟨a0, a1, a2, a3, a4⟩ := blk5 (HN0.out.ext HX.out)
    by_cases hlt : k < pnP
    rotate_left
    · obtain rfl : k = pnP := by omega
      have HE : Hid (tgE x p m = 0) := by show _ = _; unfold tgE; rw [HQP.out]; exact HALL.out
      go_wp2_with fail
      go_ret2
      exact ⟨by rw [tgV_ok HE.out, HE.out, HQP.out, ← HSS.out]; rfl, HX0.out.trans HX.out⟩
    have HKL : Hid (k < p.ps.length) := by show _ < _; rw [HQP.out]; exact hlt
    obtain ⟨bi, oi, hAI, i0⟩ := (HQA.out.ext (HX0.out.trans HX.out)).g (k := k) HKL.out
    subst hAI
    have hed := HRF.out k HKL.out
    unfold edgeB at hed
    have hed' := of_decide_eq_true hed
    clear hed
    have HTR : Hid (tgR x p m k = gradedR (gPx x.ps (gI p.ps k).toNat).p.es (gPx x.ps (gI p.ps k).toNat).p.cs m) := rfl
    have HTN : Hid (tgN x p m k = lengthN (gE (gradedE (gPx x.ps (gI p.ps k).toNat).p.es (gPx x.ps (gI p.ps k).toNat).p.cs m) (gI p.es k).toNat).2) := rfl
    obtain ⟨pc, hpc⟩ : ∃ pc, pc = gI p.ps k := ⟨_, rfl⟩
    obtain ⟨ed, hed⟩ : ∃ ed, ed = gI p.es k := ⟨_, rfl⟩
    rw [← hpc] at i0 hed' HTR HTN
    rw [← hed] at hed' HTN
    have HED := Lib.hid hed
    clear hpc hed
    obtain ⟨q0, q1, q2, q3⟩ := hed'
    obtain ⟨PC, rfl⟩ := Int.eq_ofNat_of_zero_le q0
    obtain ⟨ED, rfl⟩ := Int.eq_ofNat_of_zero_le q2
    rw [sps_len, HLP.out] at q1
    have hPC : PC < nP := by omega
    have HPCL : Hid (PC < x.ps.length) := by show _ < _; rw [HLP.out]; exact hPC
    rw [Int.toNat_natCast, sps_get HPCL.out] at q3
    rw [Int.toNat_natCast] at HTR HTN
    rw [Int.toNat_natCast] at HTN
    obtain ⟨bz, oz, qa, hAZ, hq, hcq, hzz1, hzz2⟩ := (HPS.out.ext (HX0.out.trans HX.out)) PC HPCL.out
    subst hAZ
    clear hzz1 hzz2
    obtain ⟨es, hes⟩ : ∃ es, es = (gPx x.ps PC).p.es := ⟨_, rfl⟩
    obtain ⟨cs, hcs⟩ : ∃ cs, cs = (gPx x.ps PC).p.cs := ⟨_, rfl⟩
    have hb := HLL.out PC HPCL.out
    have HGR := Lib.hid (fun W (h : Ext wr W) => rgraded_any qa.nm qa.AE qa.AN qa.AC qa.AW qa.nE qa.cE qa.nN qa.cN qa.nC qa.cC qa.nW qa.cW qa.gr m qa.mt es cs W (by rw [hes]; exact hq.e.ext h) (by rw [hes]; exact hq.le) (by rw [hcs]; exact hq.c.ext h) (by rw [hcs]; exact hq.lc) (by rw [← hq.le]; exact hb.1) (by rw [← hq.lc]; exact hb.2))
    clear hb
    have HLZ : Hid (es.length = qa.nE) := by show _ = _; rw [hes]; exact hq.le
    rw [← hes] at q3 HTR HTN
    rw [← hcs] at HTR HTN
    clear hq hes hcs
    obtain ⟨znm, zAE, znE, zcE, zgr, zAN, znN, zcN, zAC, znC, zcC, zAW, znW, zcW, zmt⟩ := qa
    obtain ⟨d0, d1, d2, d3, d4, d5, d6⟩ := hcq
    simp only at d0 d1 d2 d3 d4 d5 d6 HGR HLZ
    rw [HLZ.out] at q3
    have hED : ED < znE := by omega
    obtain ⟨c0, c1, c2, c3, c4, c5, c6⟩ := blk7 (HB0.out.ext HX.out)
    clear q0 q1 q2 q3
    obtain ⟨bm, om, hAM, m0⟩ := (HMS.out.ext (HX0.out.trans HX.out)).g (k := Z) HZM.out
    subst hAM
    rw [← HMM.out] at m0
    have keep : ∀ W1 : World, Ext wr W1 → (Ext wr W1 ∧ W1.cell? ⟨w.heap.size, 2, none⟩ = some (.slice (some ⟨bm, om, none⟩) nM cM) ∧ W1.cell? ⟨w.heap.size, 3, none⟩ = some (.slice (some ⟨bz, oz, none⟩) nP cP) ∧ W1.cell? ⟨w.heap.size + 1, 1, none⟩ = some (.slice (some ⟨bi, oi, none⟩) pnP pcP) ∧ W1.cell? ⟨bi, oi + k, none⟩ = some (.int .i64 (PC : Int)) ∧ W1.cell? ⟨bm, om + Z, none⟩ = some (.int .i64 m) ∧ W1.cell? ⟨bz, oz + PC * 7, none⟩ = some (.string znm) ∧ W1.cell? ⟨bz, oz + PC * 7 + 1, none⟩ = some (.slice zAE znE zcE) ∧ W1.cell? ⟨bz, oz + PC * 7 + 2, none⟩ = some (.int .i64 zgr) ∧ W1.cell? ⟨bz, oz + PC * 7 + 3, none⟩ = some (.slice zAN znN zcN) ∧ W1.cell? ⟨bz, oz + PC * 7 + 4, none⟩ = some (.slice zAC znC zcC) ∧ W1.cell? ⟨bz, oz + PC * 7 + 5, none⟩ = some (.slice zAW znW zcW) ∧ W1.cell? ⟨bz, oz + PC * 7 + 6, none⟩ = some (.bool zmt)) := fun W1 hx => ⟨hx, hx.cell c2, hx.cell c3, hx.cell a1, hx.cell i0, hx.cell m0, hx.cell d0, hx.cell d1, hx.cell d2, hx.cell d3, hx.cell d4, hx.cell d5, hx.cell d6⟩
    have KEEP := Lib.hid keep; clear keep
    have getw : ∀ W : World, (Ext wr W ∧ W.cell? ⟨w.heap.size, 2, none⟩ = some (.slice (some ⟨bm, om, none⟩) nM cM) ∧ W.cell? ⟨w.heap.size, 3, none⟩ = some (.slice (some ⟨bz, oz, none⟩) nP cP) ∧ W.cell? ⟨w.heap.size + 1, 1, none⟩ = some (.slice (some ⟨bi, oi, none⟩) pnP pcP) ∧ W.cell? ⟨bi, oi + k, none⟩ = some (.int .i64 (PC : Int)) ∧ W.cell? ⟨bm, om + Z, none⟩ = some (.int .i64 m) ∧ W.cell? ⟨bz, oz + PC * 7, none⟩ = some (.string znm) ∧ W.cell? ⟨bz, oz + PC * 7 + 1, none⟩ = some (.slice zAE znE zcE) ∧ W.cell? ⟨bz, oz + PC * 7 + 2, none⟩ = some (.int .i64 zgr) ∧ W.cell? ⟨bz, oz + PC * 7 + 3, none⟩ = some (.slice zAN znN zcN) ∧ W.cell? ⟨bz, oz + PC * 7 + 4, none⟩ = some (.slice zAC znC zcC) ∧ W.cell? ⟨bz, oz + PC * 7 + 5, none⟩ = some (.slice zAW znW zcW) ∧ W.cell? ⟨bz, oz + PC * 7 + 6, none⟩ = some (.bool zmt)) → Ext wr W := fun W h => h.1
    have GETW := Lib.hid getw; clear getw
    go_wp2_with fail
    clear c0 c1 c2 c3 c4 c5 c6 a0 a1 a2 a3 a4 i0 m0 d0 d1 d2 d3 d4 d5 d6
    go_region_held3 (fun W => Ext wr W ∧ W.cell? ⟨w.heap.size, 2, none⟩ = some (.slice (some ⟨bm, om, none⟩) nM cM) ∧ W.cell? ⟨w.heap.size, 3, none⟩ = some (.slice (some ⟨bz, oz, none⟩) nP cP) ∧ W.cell? ⟨w.heap.size + 1, 1, none⟩ = some (.slice (some ⟨bi, oi, none⟩) pnP pcP) ∧ W.cell? ⟨bi, oi + k, none⟩ = some (.int .i64 (PC : Int)) ∧ W.cell? ⟨bm, om + Z, none⟩ = some (.int .i64 m) ∧ W.cell? ⟨bz, oz + PC * 7, none⟩ = some (.string znm) ∧ W.cell? ⟨bz, oz + PC * 7 + 1, none⟩ = some (.slice zAE znE zcE) ∧ W.cell? ⟨bz, oz + PC * 7 + 2, none⟩ = some (.int .i64 zgr) ∧ W.cell? ⟨bz, oz + PC * 7 + 3, none⟩ = some (.slice zAN znN zcN) ∧ W.cell? ⟨bz, oz + PC * 7 + 4, none⟩ = some (.slice zAC znC zcC) ∧ W.cell? ⟨bz, oz + PC * 7 + 5, none⟩ = some (.slice zAW znW zcW) ∧ W.cell? ⟨bz, oz + PC * 7 + 6, none⟩ = some (.bool zmt))
      (first | (with_reducible assumption) | (with_reducible exact KEEP.out _ (Ext.drew (Ext.refl _))) | (with_reducible exact KEEP.out _ hxr) | fail)
      (first
        | (go_at_call 60; refine (HGR.out _ (GETW.out _ ‹_›)).mono ?_; rintro e w1 ⟨v1, rfl, hv, hv', he1⟩; have hxr := (GETW.out _ ‹_›).trans he1)
        | fail)
    have HX1 := Lib.hid (HX.out.trans hxr)
    clear he1 hxr HGR KEEP GETW
    by_cases hz : gradedR es cs m = 0
    rotate_left
    · have hvf := hv' hz
      subst hvf
      have hzb : (gradedR es cs m != 0) = true := by simp [hz]
      have HE : Hid (tgE x p m = gradedR es cs m) := by show _ = _; unfold tgE; rw [firstE_at HKL.out HALL.out (by rw [HTR.out]; exact hz), HTR.out]
      obtain ⟨R, hR⟩ : ∃ R, R = gradedR es cs m := ⟨_, rfl⟩
      rw [← hR] at hz hzb HE ⊢
      have HZ := Lib.hid hz
      clear hv hv' hz hR
      go_wp2_with fail
      go_ret2
      exact ⟨by rw [tgV_bad (by rw [HE.out]; exact HZ.out), HE.out]; rfl, HX0.out.trans HX1.out⟩
    have hO := hv hz
    have HLC := Lib.hid (graded_lines hz (show ED < es.length by rw [HLZ.out]; exact hED))
    have HTZ : Hid (tgR x p m k = 0) := by show _ = _; rw [HTR.out]; exact hz
    obtain ⟨A1, c1', hvf, hE1, _, _⟩ := OwnE.slice' (n := znE) hO (by rw [gradedE_len]; exact HLZ.out)
    subst hvf
    obtain ⟨bg, og, LG, cG, hA1, _, g1, hSG, _, _⟩ := hE1.g (k := ED) (by rw [gradedE_len, HLZ.out]; exact hED)
    subst hA1
    obtain ⟨lg, hlg⟩ : ∃ lg, lg = (gE (gradedE es cs m) ED).2 := ⟨_, rfl⟩
    rw [← hlg] at g1 hSG HLC HTN
    obtain ⟨ng, hng⟩ : ∃ ng, ng = lg.length := ⟨_, rfl⟩
    rw [← hng] at g1
    rw [hz]
    have HNG := Lib.hid hng; have HSG := Lib.hid hSG
    clear hv hv' hz hO hE1 hlg hng hSG HTR
    obtain ⟨a0, a1, a2, a3, a4⟩ := blk5 (HN0.out.ext HX1.out)
    obtain ⟨be, oe, hAE, e0⟩ := (HQB.out.ext (HX0.out.trans HX1.out)).g (k := k) (by rw [HQE.out]; exact hlt)
    subst hAE
    rw [← HED.out] at e0
    go_wp2_with fail
    refine (rlength_any LG ng cG lg _ HSG.out HNG.out.symm).mono ?_
    rintro e w2 ⟨rfl, he2⟩
    rw [HLC.out]
    have HX2 := Lib.hid (HX1.out.trans he2)
    have hnb := tgN_bd x p m k
    rw [HTN.out] at hnb
    have HTS' : Hid (tgTo x p m (k + 1) = S + lengthN lg) := by show _ = _; rw [HTS.out, HTN.out]
    obtain ⟨LN, hLN⟩ : ∃ LN, LN = lengthN lg := ⟨_, rfl⟩
    rw [← hLN] at hnb HTS' ⊢
    clear he2 a0 a1 a2 a3 a4 g1 e0 hLN
    go_wp2_with fail
    go_roundw
    case rel => exact ⟨k + 1, by omega, by go_num, by rw [HTS'.out]; go_num, firstE_succ HALL.out HTZ.out, HX2.out⟩
    case measure => simp [intOf]; omega
end Go.Proofs.YtkigmpholnfkbaaGreat
/- garmentref52.Check -/
namespace Go.Proofs.YtkigmpholnfkbaaGreat
open Go.RowKit
set_option maxRecDepth 100000 in
set_option maxHeartbeats 6400000 in
theorem r52Check_any (a : StyA) (x : StyX) (A : Option Addr) (n c : Nat) (l : List PomX) (w : World) (hs : StyXAt w a x) (hN : x.sz.length ≤ 1000) (hZ : ∀ k, k < x.sz.length → (gB x.sz k).size ≤ 1000) (hL : ∀ k, k < x.ps.length → (gPx x.ps k).p.es.length ≤ 1000 ∧ (gPx x.ps k).p.cs.length ≤ 1000)
    (hP : PomsAt w A l) (hl : l.length = n) (hc : n ≤ c) (hc' : c ≤ 9223372036854775807) :
    Calls Tryz.prog 14 #[a.val, .slice A n c] w fun e w' => e = .returned (.int .i64 (spcE x l)) ∧ Ext w w' := by
  have HCC := Lib.hid (fun W (h : Ext w W) => r25Check_any a x W (hs.ext h) hN hZ hL)
  have HCI := Lib.hid (fun W q p (h : Ext w W) (hq : PomAt W q p) (he : p.es.length = p.ps.length) => rins_any a x q p W (hs.ext h) hq he)
  clear hs hN hZ hL
  have HP := Lib.hid hP; clear hP
  have HL := Lib.hid hl; clear hl
  obtain ⟨nm, AS, nS, cS, AM, nM, cM, AP, nP, cP, AU, nU, cU, AK, nK, cK, AO, nO, cO⟩ := a
  simp only [StyA.val, PomA.val] at HCC HCI ⊢
  obtain ⟨SP, hSP⟩ : ∃ SP, SP = spcE x l := ⟨_, rfl⟩
  rw [← hSP]
  unfold spcE at hSP
  have HSP := Lib.hid hSP; clear hSP
  go_enter Tryz.func14, Tryz.ntmps14
  go_wp2_with fail
  refine (HCC.out _ ((Ext.refl _).alloc _)).mono ?_
  rintro e w1 ⟨rfl, he1⟩
  have HB1 : Hid (Blk 29 w1 w.heap.size [.string nm, .slice AS nS cS, .slice AM nM cM, .slice AP nP cP, .slice AU nU cU, .slice AK nK cK, .slice AO nO cO]) := (Blk.new' rfl).ext he1
  have HX1 := Lib.hid (((Ext.refl w).alloc _).trans he1)
  clear he1 HCC
  obtain ⟨SE, hSE⟩ : ∃ SE, SE = styE x := ⟨_, rfl⟩
  rw [← hSE] at HSP ⊢
  clear hSE
  by_cases hz : SE = 0
  rotate_left
  · have hzb : (SE != 0) = true := by simp [hz]
    have HR : Hid (SP = SE) := by show _ = _; rw [HSP.out, if_pos hz]
    clear hz
    go_wp2_with fail
    go_ret
    exact ⟨ret_int HR.out.symm, HX1.out⟩
  subst hz
  by_cases h16 : 16 < n
  · have HR : Hid (SP = 5) := by show _ = _; rw [HSP.out, if_neg (by simp), if_pos (by rw [HL.out]; exact h16)]
    go_wp2_with fail
    go_ret
    exact ⟨ret_int HR.out.symm, HX1.out⟩
  have HR1 : Hid (SP = firstE (pomE x l) l.length) := by show _ = _; rw [HSP.out, if_neg (by simp), if_neg (by rw [HL.out]; exact h16)]
  clear HSP
  go_wp2_with fail
  go_loopw [6] (fun i wr => ∃ k : Nat, k ≤ n ∧ i = .int .i64 k ∧ firstE (pomE x l) k = 0 ∧ Ext w1 wr) (fun i _ => n - (intOf i).toNat)
  case atStart => exact ⟨0, Nat.zero_le _, rfl, rfl, Ext.refl _⟩
  case round =>
    obtain ⟨k, hk, rfl, hall, hx⟩ := hrel
    have HALL := Lib.hid hall; have HX := Lib.hid hx; clear hall hx
    by_cases hlt : k < n
    rotate_left
    · obtain rfl : k = n := by omega
      have HR : Hid (SP = 0) := by show _ = _; rw [HR1.out, HL.out]; exact HALL.out
      go_wp2_with fail
      go_ret
      exact ⟨ret_int HR.out.symm, HX1.out.trans HX.out⟩
    have HKL : Hid (k < l.length) := by show _ < _; rw [HL.out]; exact hlt
    obtain ⟨bp, op, q, hA, hq, hcq⟩ := (HP.out.ext (HX1.out.trans HX.out)) k HKL.out
    subst hA
    have HQ := Lib.hid hq; clear hq
    obtain ⟨pn, pAP, pnP, pcP, pAE, pnE, pcE, ppl, pmi⟩ := q
    have HQN : Hid ((gPm l k).nm = pn) := HQ.out.nm.symm
    have HQP : Hid ((gPm l k).ps.length = pnP) := HQ.out.lP
    have HQE : Hid ((gPm l k).es.length = pnE) := HQ.out.lE
    have hbq : pnP ≤ 9223372036854775807 := HQ.out.bP
    obtain ⟨a0, a1, a2, a3, a4⟩ := hcq
    simp only at a0 a1 a2 a3 a4
    have HPE := Lib.hid (pom_eq x l k)
    rw [HQN.out, HQE.out, HQP.out] at HPE
    have HFA : Hid (pomE x l k ≠ 0 → SP = pomE x l k) := fun h => by rw [HR1.out, firstE_at HKL.out HALL.out h]
    obtain ⟨PE, hPE⟩ : ∃ PE, PE = pomE x l k := ⟨_, rfl⟩
    rw [← hPE] at HPE HFA
    have HPD := Lib.hid hPE; clear hPE
    go_upto_region 10 with fail
    refine wp_at fun wq hWq => ?_
    have hNb : Blk 36 wq wr.heap.size [.string pn, .slice pAP pnP pcP, .slice pAE pnE pcE, .int .i64 ppl, .int .i64 pmi] := by rw [hWq]; exact Blk.new' rfl
    have hxq : Ext wr wq := by rw [hWq]; exact (Ext.refl _).alloc _
    obtain ⟨nb, hnb⟩ : ∃ nb, nb = wr.heap.size := ⟨_, rfl⟩
    rw [← hnb] at hNb ⊢
    have HNB := Lib.hid hNb
    have HXq := Lib.hid (HX.out.trans hxq)
    have HQ' := Lib.hid (HQ.out.ext hxq)
    clear hWq hnb hxq hNb HX a0 a1 a2 a3 a4 HQ
    obtain ⟨a0, a1, a2, a3, a4⟩ := blk5 HNB.out
    go_wp2_with fail
    refine (rname_any pn _).mono ?_
    rintro e w2 ⟨rfl, hw2⟩
    obtain rfl : wq = w2 := hw2
    cases hnb : nameB pn
    · have HR : Hid (SP = 1) := by
        have h1 : PE = 1 := by rw [HPE.out, if_pos (Or.inl hnb)]
        show _ = _; rw [HFA.out (by rw [h1]; decide), h1]
      clear hnb
      go_wp2_with fail
      go_ret
      exact ⟨ret_int HR.out.symm, HX1.out.trans HXq.out⟩
    by_cases g1 : pnE = pnP
    rotate_left
    · have HR : Hid (SP = 1) := by
        have h1 : PE = 1 := by rw [HPE.out, if_pos (Or.inr (Or.inl g1))]
        show _ = _; rw [HFA.out (by rw [h1]; decide), h1]
      have g1b : ((pnP : Int) != (pnE : Int)) = true := by simp; omega
      clear hnb g1
      go_wp2_with fail
      go_ret
      exact ⟨ret_int HR.out.symm, HX1.out.trans HXq.out⟩
    have HEQ := Lib.hid g1
    have g1b : ((pnP : Int) != (pnE : Int)) = false := by simp; omega
    by_cases g2 : pnP = 0
    · have HR : Hid (SP = 1) := by
        have h1 : PE = 1 := by rw [HPE.out, if_pos (Or.inr (Or.inr (Or.inl g2)))]
        show _ = _; rw [HFA.out (by rw [h1]; decide), h1]
      have g2b : ((pnE : Int) == 0) = true := by simp; omega
      clear hnb g1 g2
      go_wp2_with fail
      go_ret
      exact ⟨ret_int HR.out.symm, HX1.out.trans HXq.out⟩
    have g2b : ((pnE : Int) == 0) = false := by simp; omega
    by_cases g3 : 16 < pnP
    · have HR : Hid (SP = 1) := by
        have h1 : PE = 1 := by rw [HPE.out, if_pos (Or.inr (Or.inr (Or.inr g3)))]
        show _ = _; rw [HFA.out (by rw [h1]; decide), h1]
      have g3b : 16 < pnE := by omega
      clear hnb g1 g2
      go_wp2_with fail
      go_ret
      exact ⟨ret_int HR.out.symm, HX1.out.trans HXq.out⟩
    have HPE1 : Hid (PE = pm1 x l k) := by show _ = _; rw [HPE.out, if_neg (by rw [hnb]; simp; omega)]
    have g3b : ¬ 16 < pnE := by omega
    clear hnb g1 HPE
    have hkc : k ≤ c := by omega
    go_wp2_with fail
    clear a0 a1 a2 a3 a4 g2b g1b
    go_loopw [8] (fun i wr => ∃ j : Nat, j ≤ k ∧ i = .int .i64 j ∧ (∀ q, q < j → mdupF l k q = false) ∧ Ext wq wr) (fun i _ => k - (intOf i).toNat)
    case atStart => exact ⟨0, Nat.zero_le _, rfl, fun q hq => absurd hq (Nat.not_lt_zero _), Ext.refl _⟩
    case round =>
      obtain ⟨j, hj, rfl, hall, hx⟩ := hrel
      have HAL2 := Lib.hid hall; have HX := Lib.hid hx; clear hall hx
      obtain ⟨a0, a1, a2, a3, a4⟩ := blk5 (HNB.out.ext HX.out)
      by_cases hjk : j < k
      · obtain ⟨bp', op', q, hA, hq, hcq⟩ := (HP.out.ext ((HX1.out.trans HXq.out).trans HX.out)) j (by have := HKL.out; omega)
        injection hA with hA
        injection hA with e1 e2
        subst e1; subst e2
        have HQJ : Hid ((gPm l j).nm = q.nm) := hq.nm.symm
        clear hq
        obtain ⟨qn, qAP, qnP, qcP, qAE, qnE, qcE, qpl, qmi⟩ := q
        obtain ⟨b0, b1, b2, b3, b4⟩ := hcq
        simp only at b0 b1 b2 b3 b4 HQJ
        cases heq : (qn.toList == pn.toList)
        · have HD : Hid (mdupF l k j = false) := by show _ = _; unfold mdupF; rw [HQJ.out, HQN.out, ← str_eq]; exact heq
          go_wp2_with fail
          go_quiet (fail)
          go_wp2_with fail
          go_roundw
          case rel => exact ⟨j + 1, by omega, by go_num, fun q hq => by
            rcases Nat.lt_succ_iff_lt_or_eq.1 hq with h | h
            · exact HAL2.out q h
            · subst h; exact HD.out, HX.out.drewN _⟩
          case measure => simp [intOf]; omega
        · have HD : Hid (mdupF l k j = true) := by show _ = _; unfold mdupF; rw [HQJ.out, HQN.out, ← str_eq]; exact heq
          have HR : Hid (SP = 7) := by
            have h1 : PE = 7 := by rw [HPE1.out]; unfold pm1; rw [if_pos (any_at hjk HD.out)]
            show _ = _; rw [HFA.out (by rw [h1]; decide), h1]
          go_wp2_with fail
          go_quiet (fail)
          go_wp2_with fail
          go_ret
          exact ⟨ret_int HR.out.symm, (HX1.out.trans HXq.out).trans (HX.out.drewN _)⟩
      obtain rfl : j = k := by omega
      have HPE2 : Hid (PE = pm2 x (gPm l j)) := by show _ = _; rw [HPE1.out]; unfold pm1; rw [if_neg (by rw [any_none HAL2.out]; simp)]
      clear HAL2 HPE1 hjk hj
      obtain ⟨c0, c1, c2, c3, c4, c5, c6⟩ := blk7 (HB1.out.ext (HXq.out.trans HX.out))
      go_wp2_with fail
      refine (HCI.out _ ⟨pn, pAP, pnP, pcP, pAE, pnE, pcE, ppl, pmi⟩ (gPm l j) ((HX1.out.trans HXq.out).trans HX.out) (HQ'.out.ext HX.out) (by rw [HQE.out, HQP.out]; exact HEQ.out)).mono ?_
      rintro e w3 ⟨rfl, he3⟩
      have HX3 := Lib.hid he3; clear he3
      clear a0 a1 a2 a3 a4 c0 c1 c2 c3 c4 c5 c6
      obtain ⟨IB, hIB⟩ : ∃ IB, IB = insB x (gPm l j) := ⟨_, rfl⟩
      rw [← hIB]
      have HIB := Lib.hid hIB; clear hIB
      cases IB
      · have HR : Hid (SP = 3) := by
          have h0 : pm2 x (gPm l j) = 3 := (pm2_or x (gPm l j)).resolve_right fun h => by rw [ins_yes h] at HIB; exact absurd HIB.out (by decide)
          have h1 : PE = 3 := by rw [HPE2.out, h0]
          show _ = _; rw [HFA.out (by rw [h1]; decide), h1]
        go_wp2_with fail
        go_ret
        exact ⟨ret_int HR.out.symm, ((HX1.out.trans HXq.out).trans HX.out).trans HX3.out⟩
      · have HZ : Hid (pomE x l j = 0) := by
          have h0 : pm2 x (gPm l j) = 0 := (pm2_or x (gPm l j)).resolve_left fun h => by rw [ins_no h] at HIB; exact absurd HIB.out (by decide)
          show _ = _; rw [← HPD.out, HPE2.out, h0]
        go_wp2_with fail
        go_roundw
        case rel => exact ⟨j + 1, by omega, by go_num, firstE_succ HALL.out HZ.out, (HXq.out.trans HX.out).trans HX3.out⟩
        case measure => simp [intOf]; omega
end Go.Proofs.YtkigmpholnfkbaaGreat
namespace Go.Proofs.YtkigmpholnfkbaaGreat
open Go.RowKit
set_option maxRecDepth 100000 in
theorem judged_any (q : PomA) (T : Nat) (v : Int) (w : World) (hT : T ≤ 16000000000000) (h0 : 0 ≤ v) (h1 : v ≤ 35184372088832) (p0 : 0 ≤ q.pl) (p1 : q.pl ≤ 1073741824) (m0 : 0 ≤ q.mi) (m1 : q.mi ≤ 1073741824) :
    Calls Tryz.prog 37 #[q.val, .int .i64 (T : Int), .int .i64 v] w fun e w' => e = .returned (.int .i64 (if v - ((T : Int) - q.mi) < 0 then v - ((T : Int) - q.mi) else if 0 < v - ((T : Int) + q.pl) then v - ((T : Int) + q.pl) else 0)) ∧ Ext w w' := by
  obtain ⟨pn, pAP, pnP, pcP, pAE, pnE, pcE, ppl, pmi⟩ := q
  simp only [PomA.val] at p0 p1 m0 m1 ⊢
  go_enter Tryz.func37, Tryz.ntmps37
  by_cases ov : (T : Int) + ppl < v
  · go_wp2_with fail
    go_ret
    refine ⟨ret_int ?_, (Ext.refl _).alloc _⟩
    first | omega | rfl
  by_cases un : v < (T : Int) - pmi
  · go_wp2_with fail
    go_ret
    refine ⟨ret_int ?_, (Ext.refl _).alloc _⟩
    first | omega | rfl
  · go_wp2_with fail
    go_ret
    refine ⟨ret_int ?_, (Ext.refl _).alloc _⟩
    first | rfl | omega
set_option maxRecDepth 100000 in
set_option maxHeartbeats 6400000 in
theorem rjudge_any (a : StyA) (x : StyX) (A : Option Addr) (n c : Nat) (l : List PomX) (z : Int) (B : Option Addr) (nv cv : Nat) (vs : List Int) (w : World) (hs : StyXAt w a x) (hN : x.sz.length ≤ 1000) (hZ : ∀ k, k < x.sz.length → (gB x.sz k).size ≤ 1000) (hL : ∀ k, k < x.ps.length → (gPx x.ps k).p.es.length ≤ 1000 ∧ (gPx x.ps k).p.cs.length ≤ 1000)
    (hP : PomsAt w A l) (hl : l.length = n) (hc : n ≤ c) (hc' : c ≤ 9223372036854775807) (hV : IntsAt w B vs) (hv : vs.length = nv) (hnv : nv ≤ 9223372036854775807) :
    Calls Tryz.prog 18 #[a.val, .slice A n c, .int .i64 z, .slice B nv cv] w (RetJd w (judE x l z vs) (judL x l z vs)) := by
  have HS := Lib.hid hs
  have HCC := Lib.hid (fun W (h : Ext w W) => r52Check_any a x A n c l W (hs.ext h) hN hZ hL (hP.ext h) hl hc hc')
  have HCT := Lib.hid (fun q p Z W (h : Ext w W) (hq : PomAt W q p) (hok : PomOk x p) (hz : Z < x.ms.length) => rsum_any a x q p Z W (hs.ext h) hz hL hq hok.le hok.n1 hok.rf)
  clear hs hN hZ hL
  obtain ⟨i0, hi0, hz0, hz1, hz2⟩ := info_parts int_info
  have HP := Lib.hid hP; clear hP
  have HL := Lib.hid hl; clear hl
  have HV := Lib.hid hV; clear hV
  have HLV := Lib.hid hv; clear hv
  obtain ⟨nm, AS, nS, cS, AM, nM, cM, AP, nP, cP, AU, nU, cU, AK, nK, cK, AO, nO, cO⟩ := a
  have HLS : Hid (x.sz.length = nS) := HS.out.lS
  have HLM : Hid (x.ms.length = nM) := HS.out.lM
  have HMS := Lib.hid HS.out.M
  have hbS : nS ≤ 9223372036854775807 := HS.out.bS
  clear HS
  simp only [StyA.val] at HMS HCC HCT ⊢
  have HS1 := Lib.hid (@spcE_zero x l)
  have HJE := Lib.hid (jud_eq x l z vs)
  have HJL := Lib.hid (judL_eq x l z vs)
  rw [HLS.out, HL.out, HLV.out] at HJE
  rw [HL.out] at HJL
  obtain ⟨JE, hJE⟩ : ∃ y, y = judE x l z vs := ⟨_, rfl⟩
  obtain ⟨JL, hJL⟩ : ∃ y, y = judL x l z vs := ⟨_, rfl⟩
  rw [← hJE] at HJE ⊢
  rw [← hJL] at HJL ⊢
  clear hJE hJL
  go_enter Tryz.func18, Tryz.ntmps18
  go_wp2_with fail
  refine (HCC.out _ ((Ext.refl _).alloc _)).mono ?_
  rintro e w1 ⟨rfl, he1⟩
  have HB1 : Hid (Blk 29 w1 w.heap.size [.string nm, .slice AS nS cS, .slice AM nM cM, .slice AP nP cP, .slice AU nU cU, .slice AK nK cK, .slice AO nO cO]) := (Blk.new' rfl).ext he1
  have HX1 : Hid (Ext w w1) := ((Ext.refl _).alloc _).trans he1
  clear he1 HCC
  obtain ⟨SP, hSP⟩ : ∃ y, y = spcE x l := ⟨_, rfl⟩
  rw [← hSP] at HJE HS1 ⊢
  clear hSP
  by_cases hz : SP = 0
  rotate_left
  · have HR : Hid (JE = SP) := by show _ = _; rw [HJE.out, if_pos hz]
    have hzb : (SP != 0) = true := by simp [hz]
    have HZ := Lib.hid hz
    clear hz
    go_wp2_with fail
    go_ret2
    exact retJd_bad HR.out HZ.out HX1.out
  obtain ⟨hse, h16, hoks⟩ := HS1.out.1 hz
  have HML : Hid (nM = nS) := by show _ = _; rw [← HLM.out, ← HLS.out]; exact sty_ms hse
  rw [HL.out] at h16
  have HOK := Lib.hid (fun i (h : i < l.length) => (hoks i h).1)
  subst hz
  clear HS1 hse hoks
  simp only [ne_eq, not_true_eq_false, if_false] at HJE
  obtain ⟨c0, c1, c2, c3, c4, c5, c6⟩ := blk7 HB1.out
  by_cases hvn : nv = n
  rotate_left
  · have HR : Hid (JE = 1) := by show _ = _; rw [HJE.out, if_pos hvn]
    have hzb : ((nv : Int) != (n : Int)) = true := by simp; omega
    clear hvn
    go_wp2_with fail
    go_ret2
    exact retJd_bad HR.out (by decide) HX1.out
  have hvb : ((nv : Int) != (n : Int)) = false := by simp; omega
  have HJE1 : Hid (JE = if z < 0 ∨ (nS : Int) ≤ z then 3 else firstE (jdE x l (gI x.ms z.toNat) vs) n) := by show _ = _; rw [HJE.out, if_neg (fun h => h hvn)]
  have HVN := Lib.hid hvn
  clear hvn HJE
  by_cases g0 : z < 0
  · have HR : Hid (JE = 3) := by show _ = _; rw [HJE1.out, if_pos (Or.inl g0)]
    go_wp2_with fail
    go_ret2
    exact retJd_bad HR.out (by decide) HX1.out
  by_cases g1 : (nS : Int) ≤ z
  · have HR : Hid (JE = 3) := by show _ = _; rw [HJE1.out, if_pos (Or.inr g1)]
    go_wp2_with fail
    go_ret2
    exact retJd_bad HR.out (by decide) HX1.out
  have HJE2 : Hid (JE = firstE (jdE x l (gI x.ms z.toNat) vs) n) := by show _ = _; rw [HJE1.out, if_neg (by omega)]
  clear HJE1
  obtain ⟨Z, rfl⟩ := Int.eq_ofNat_of_zero_le (show 0 ≤ z by omega)
  rw [Int.toNat_natCast] at HJE2 HJL
  have zb0 : decide ((Z : Int) < 0) = false := decide_eq_false g0
  have zb1 : decide ((nS : Int) ≤ (Z : Int)) = false := decide_eq_false g1
  have zb2 : decide (nS ≤ Z) = false := decide_eq_false (by omega)
  have hZM : Z < nM := by have := HML.out; omega
  obtain ⟨M, hM⟩ : ∃ M, M = gI x.ms Z := ⟨_, rfl⟩
  rw [← hM] at HJE2 HJL
  have HXI : Hid (Z < x.ms.length) := by show _ < _; rw [HLM.out]; exact hZM
  have HMQ := Lib.hid hM; clear hM
  have hn16 : n ≤ 16 := by omega
  have HBB : Hid (Blk 29 w1 w.heap.size [.string nm, .slice AS nS cS, .slice AM nM cM, .slice AP nP cP, .slice AU nU cU, .slice AK nK cK, .slice AO nO cO]) := HB1
  go_wp2_with fail
  clear c0 c1 c2 c3 c4 c5 c6
  go_loopw [11, 12] (fun v i wr => ∃ k : Nat, k ≤ n ∧ i = .int .i64 k ∧ firstE (jdE x l M vs) k = 0 ∧ OwnI wr w1.heap.size v ((List.range k).map (jvF x l M vs)) ∧ Ext w1 wr) (fun _ i _ => n - (intOf i).toNat)
  case atStart => exact ⟨0, Nat.zero_le _, rfl, rfl, OwnI.nil _ _, Ext.refl _⟩
  case round =>
    obtain ⟨k, hk, rfl, hall, ho, hx⟩ := hrel
    have HALL := Lib.hid hall; have HX0 := Lib.hid hx; have HX := Lib.hid (HX1.out.trans hx)
    have HBS := Lib.hid (HBB.out.ext hx)
    clear hall hx
    by_cases hlt : k < n
    rotate_left
    · obtain rfl : k = n := by omega
      have HR : Hid (JE = 0) := by show _ = _; rw [HJE2.out]; exact HALL.out
      have HO := Lib.hid ho; clear ho
      go_wp2_with fail
      go_ret2
      refine ⟨_, by rw [HR.out]; rfl, fun _ => ?_, fun h => absurd HR.out h, HX.out⟩
      rw [HJL.out]
      exact own_base_le HO.out HX1.out.size
    obtain ⟨LK, hLK⟩ : ∃ LK, LK = (List.range k).map (jvF x l M vs) := ⟨_, rfl⟩
    rw [← hLK] at ho
    have hlk : LK.length = k := by rw [hLK]; simp
    obtain ⟨VA, vc, hvf, _, _, _⟩ := OwnI.slice ho
    subst hvf
    have HO := Lib.hid ho; have HLKE := Lib.hid hLK; have HLKL := Lib.hid hlk; clear ho hLK hlk
    have HKL : Hid (k < l.length) := by show _ < _; rw [HL.out]; exact hlt
    have HOKK := Lib.hid (HOK.out k HKL.out)
    obtain ⟨bp, op, q, hA, hq, hcq1⟩ := (HP.out.ext HX1.out) k HKL.out
    have hcq := hcq1.ext HX0.out
    subst hA
    have HPL : Hid (q.pl = (gPm l k).pl) := hq.pl
    have HMI : Hid (q.mi = (gPm l k).mi) := hq.mi
    have HCU := Lib.hid (fun W (h : Ext wr W) => HCT.out q (gPm l k) Z W (HX.out.trans h) (hq.ext (HX0.out.trans h)) HOKK.out HXI.out)
    clear hq
    obtain ⟨pn, pAP, pnP, pcP, pAE, pnE, pcE, ppl, pmi⟩ := q
    have HCQ := Lib.hid hcq1; clear hcq1
    obtain ⟨a0, a1, a2, a3, a4⟩ := hcq
    simp only [PomA.val] at a0 a1 a2 a3 a4 HPL HMI HCU
    have hp0 : 0 ≤ ppl := by rw [HPL.out]; exact HOKK.out.p0
    have hp1 : ppl ≤ 1073741824 := by rw [HPL.out]; exact HOKK.out.p1
    have hm0 : 0 ≤ pmi := by rw [HMI.out]; exact HOKK.out.m0
    have hm1 : pmi ≤ 1073741824 := by rw [HMI.out]; exact HOKK.out.m1
    have HVK : Hid (∀ W, Ext w W → ∃ b o, B = some ⟨b, o, none⟩ ∧ W.cell? ⟨b, o + k, none⟩ = some (.int .i64 (gI vs k))) := fun W h => (HV.out.ext h).g (k := k) (by rw [HLV.out, HVN.out]; exact hlt)
    have HJK : Hid (jdE x l M vs k = if gI vs k < 0 ∨ 35184372088832 < gI vs k then 3 else tgE x (gPm l k) M) := rfl
    have HJV : Hid (jvF x l M vs k = judV (gPm l k) (tgTo x (gPm l k) M (gPm l k).ps.length : Int) (gI vs k)) := rfl
    obtain ⟨v, hv⟩ : ∃ v, v = gI vs k := ⟨_, rfl⟩
    rw [← hv] at HVK HJK HJV
    clear hv
    have HFA : Hid (jdE x l M vs k ≠ 0 → JE = jdE x l M vs k) := fun h => by rw [HJE2.out, firstE_at hlt HALL.out h]
    obtain ⟨bv, ov, hBv, v00⟩ := HVK.out w1 HX1.out
    subst hBv
    have HV00 := Lib.hid v00
    have v0 := HX0.out.cell v00
    clear v00
    have hkv : k < nv := by have := HVN.out; omega
    by_cases q0 : v < 0
    · have HR : Hid (JE = 3) := by
        have h3 : jdE x l M vs k = 3 := by rw [HJK.out, if_pos (Or.inl q0)]
        show _ = _; rw [HFA.out (by rw [h3]; decide), h3]
      go_wp2_with fail
      go_ret2
      exact retJd_bad HR.out (by decide) HX.out
    by_cases q1 : 35184372088832 < v
    · have HR : Hid (JE = 3) := by
        have h3 : jdE x l M vs k = 3 := by rw [HJK.out, if_pos (Or.inr q1)]
        show _ = _; rw [HFA.out (by rw [h3]; decide), h3]
      go_wp2_with fail
      go_ret2
      exact retJd_bad HR.out (by decide) HX.out
    have HJK2 : Hid (jdE x l M vs k = tgE x (gPm l k) M) := by show _ = _; rw [HJK.out, if_neg (by omega)]
    clear HJK
    obtain ⟨ME, hME⟩ : ∃ y, y = tgE x (gPm l k) M := ⟨_, rfl⟩
    have HTT : Hid (ME = 0 → tgV x (gPm l k) M = (tgTo x (gPm l k) M (gPm l k).ps.length : Int)) := fun h => tgV_ok (by rw [← hME]; exact h)
    have HTB : Hid (tgTo x (gPm l k) M (gPm l k).ps.length ≤ 16000000000000) := by
      have h1 := tgTo_bd x (gPm l k) M (gPm l k).ps.length
      have h2 := HOKK.out.n1
      show _ ≤ _; omega
    obtain ⟨MV, hMV⟩ : ∃ y, y = tgV x (gPm l k) M := ⟨_, rfl⟩
    rw [← hME] at HJK2
    rw [← hMV] at HTT
    obtain ⟨T, hT⟩ : ∃ y, y = tgTo x (gPm l k) M (gPm l k).ps.length := ⟨_, rfl⟩
    rw [← hT] at HTT HTB HJV
    have HCW : Hid (∀ W, Ext wr W → Calls Tryz.prog 36 #[.agg #[.string nm, .slice AS nS cS, .slice AM nM cM, .slice AP nP cP, .slice AU nU cU, .slice AK nK cK, .slice AO nO cO], .agg #[.string pn, .slice pAP pnP pcP, .slice pAE pnE pcE, .int .i64 ppl, .int .i64 pmi], .int .i64 (Z : Int)] W fun e w' => e = .returned (.tuple #[.int .i64 MV, .int .i64 ME]) ∧ Ext W w') := fun W h => by
      rw [hME, hMV, HMQ.out]; exact HCU.out W h
    clear hME hMV hT HCU
    obtain ⟨c0, c1, c2, c3, c4, c5, c6⟩ := blk7 HBS.out
    have z0 := fun z : After wr => After.cell c0 z
    have z1 := fun z : After wr => After.cell c1 z
    have z2 := fun z : After wr => After.cell c2 z
    have z3 := fun z : After wr => After.cell c3 z
    have z4 := fun z : After wr => After.cell c4 z
    have z5 := fun z : After wr => After.cell c5 z
    have z6 := fun z : After wr => After.cell c6 z
    have y0 := fun z : After wr => After.cell a0 z
    have y1 := fun z : After wr => After.cell a1 z
    have y2 := fun z : After wr => After.cell a2 z
    have y3 := fun z : After wr => After.cell a3 z
    have y4 := fun z : After wr => After.cell a4 z
    go_wp2_with fail
    refine region_ext (by kernel_rfl) (by kernel_rfl) ?_
    repeat (first | go_big_quiet_step ((go_at_call 36; exact after_call (HCW.out _ (After.ext _)))) | (go_big_quiet_want; go_simp; go_big_quiet_on))
    refine wpQuiet_nil ?_
    rintro w4 ⟨⟨_, he4⟩, rfl⟩
    have HX4 := Lib.hid (HX.out.trans he4)
    have HX04 := Lib.hid (HX0.out.trans he4)
    have HO4 : Hid (OwnI w4 w1.heap.size (.slice VA LK.length vc) LK) := own_ext HO.out he4
    clear z0 z1 z2 z3 z4 z5 z6 y0 y1 y2 y3 y4 a0 a1 a2 a3 a4 c0 c1 c2 c3 c4 c5 c6 v0 he4 HCW HBS HX HX0 HO
    by_cases hz : ME = 0
    rotate_left
    · have HR : Hid (JE = ME) := by show _ = _; rw [HFA.out (by rw [HJK2.out]; exact hz), HJK2.out]
      have hzb : (ME != 0) = true := by simp [hz]
      have HZ := Lib.hid hz
      clear hz
      go_wp2_with fail
      go_ret2
      exact retJd_bad HR.out HZ.out HX4.out
    have HMT := Lib.hid (HTT.out hz)
    have HZ : Hid (jdE x l M vs k = 0) := by show _ = _; rw [HJK2.out]; exact hz
    subst hz
    obtain rfl : MV = (T : Int) := HMT.out
    have hTb := HTB.out
    clear HMT HTT HTB HJK2 HFA
    have HJ2 : Hid (jvF x l M vs k = if v - ((T : Int) - pmi) < 0 then v - ((T : Int) - pmi) else if 0 < v - ((T : Int) + ppl) then v - ((T : Int) + ppl) else 0) := by show _ = _; rw [HJV.out, HPL.out, HMI.out]; rfl
    clear HJV
    obtain ⟨J, hJ⟩ : ∃ J, J = jvF x l M vs k := ⟨_, rfl⟩
    have HJC : Hid (∀ W : World, Calls Tryz.prog 37 #[.agg #[.string pn, .slice pAP pnP pcP, .slice pAE pnE pcE, .int .i64 ppl, .int .i64 pmi], .int .i64 (T : Int), .int .i64 v] W fun e w' => e = .returned (.int .i64 J) ∧ Ext W w') := fun W => by
      rw [hJ, HJ2.out]
      exact judged_any ⟨pn, pAP, pnP, pcP, pAE, pnE, pcE, ppl, pmi⟩ T v W hTb (by omega) (by omega) hp0 hp1 hm0 hm1
    have HJJ := Lib.hid hJ; clear hJ HJ2
    obtain ⟨a0, a1, a2, a3, a4⟩ := HCQ.out
    simp only at a0 a1 a2 a3 a4
    have v4 := HV00.out
    have keep : ∀ W1 : World, Ext w1 W1 → (Ext w1 W1 ∧ W1.cell? ⟨bp, op + k * 5, none⟩ = some (.string pn) ∧ W1.cell? ⟨bp, op + k * 5 + 1, none⟩ = some (.slice pAP pnP pcP) ∧ W1.cell? ⟨bp, op + k * 5 + 2, none⟩ = some (.slice pAE pnE pcE) ∧ W1.cell? ⟨bp, op + k * 5 + 3, none⟩ = some (.int .i64 ppl) ∧ W1.cell? ⟨bp, op + k * 5 + 4, none⟩ = some (.int .i64 pmi) ∧ W1.cell? ⟨bv, ov + k, none⟩ = some (.int .i64 v)) := fun W1 hx => ⟨hx, hx.cell a0, hx.cell a1, hx.cell a2, hx.cell a3, hx.cell a4, hx.cell v4⟩
    have KEEP := Lib.hid keep; clear keep
    have hlkk := HLKL.out
    have H63 : Hid (LK.length + 1 ≤ maxLen) := by show _ ≤ _; unfold maxLen; omega
    have H64 : Hid ((LK.length + 1) * 8 ≤ 140737488355328) := by show _ ≤ _; omega
    have HSZ := Lib.hid HX04.out.size
    have hkn : (k : Int) < n := by omega
    have hkv' : (k : Int) < nv := by omega
    have hkk0 : (0 : Int) ≤ k := by omega
    go_wp2_with fail
    clear a0 a1 a2 a3 a4 v4 hlkk
    go_region_held3 (fun W => Ext w1 W ∧ W.cell? ⟨bp, op + k * 5, none⟩ = some (.string pn) ∧ W.cell? ⟨bp, op + k * 5 + 1, none⟩ = some (.slice pAP pnP pcP) ∧ W.cell? ⟨bp, op + k * 5 + 2, none⟩ = some (.slice pAE pnE pcE) ∧ W.cell? ⟨bp, op + k * 5 + 3, none⟩ = some (.int .i64 ppl) ∧ W.cell? ⟨bp, op + k * 5 + 4, none⟩ = some (.int .i64 pmi) ∧ W.cell? ⟨bv, ov + k, none⟩ = some (.int .i64 v))
      (first | (with_reducible exact KEEP.out _ hxn) | (with_reducible exact KEEP.out _ hx5) | (with_reducible assumption) | (with_reducible exact KEEP.out _ (Ext.drew HX04.out)) | (with_reducible exact KEEP.out _ (Ext.alloc hx5 _)) | fail)
      (first
        | (go_at_call 37; (with_reducible refine (HJC.out w4.drew).mono ?_); rintro e w5 ⟨rfl, he5⟩; have hx45 : Ext w4 w5 := (Ext.drew (Ext.refl _)).trans he5; have hx5 : Ext w1 w5 := HX04.out.trans hx45; have HO5 := Lib.hid (own_ext HO4.out hx45); have hs5 := hx5.size)
        | (refine step_append_lies _ (by rfl) (.tmp 66) (.tmp 77) 23 (by rfl) w1.heap.size 3 i0 (.int .i64 0) 1 8 Tryz.underlying23 hi0 hz0 hz1 hz2 rfl (by decide) (.slice VA LK.length vc) LK.length (icells LK) (by rfl) (World.ownsRow.alloc HO5.out _) ⟨w5.heap.size, 0, none⟩ 1 1 [.int .i64 J] (by rfl) (by rfl) (World.news_of_block (cs := #[.int .i64 J]) (t := 3) (fr := (0, 0)) (heap_alloc_new w5 _)) (by simp [Value.oneCell']) (by decide) H63.out H64.out (Nat.le_trans hs5 (by simp)) (w5.heap.size + 1) (by simp) ?_; intro gg cap w6 hown1 hgrow hat hlt1; have hxn : Ext w1 w6 := Ext.grown (Ext.alloc hx5 _) hgrow (fun g hg => (World.ownsRow.lt HO4.out g hg).1))
        | fail)
    have hO' : OwnI w6 w1.heap.size (.slice (some ⟨gg, 0, none⟩) (LK.length + 1) cap) ((List.range (k + 1)).map (jvF x l M vs)) := by
      rw [List.range_succ, List.map_append, ← HLKE.out]
      simp only [List.map_cons, List.map_nil]
      rw [← HJJ.out]
      unfold OwnI icells
      rw [List.length_append, List.map_append]
      exact hown1
    have HO' := Lib.hid hO'; have HXN := Lib.hid hxn
    clear hO' hown1 hgrow hat hlt1 hxn
    go_wp2_with fail
    go_roundw
    case rel => exact ⟨k + 1, by omega, by go_num, firstE_succ HALL.out HZ.out, HO'.out, HXN.out⟩
    case measure => simp [intOf]; omega
end Go.Proofs.YtkigmpholnfkbaaGreat
