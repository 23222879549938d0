/- The law SpecChecks: for every input it returns true and leaves its arguments as they were. No conditions. -/
import Derived.OpenShut
import Derived.Test.YtkigmpholnfkbaaGreatRows
import Derived.Test.YtkigmpholnfkbaaGreatKRS25
import Derived.Test.YtkigmpholnfkbaaGreatKOpenS
import Derived.Test.YtkigmpholnfkbaaGreatKLawSw
/- garmentref52: inside -/
namespace Go.Proofs.YtkigmpholnfkbaaGreat
open Go.RowKit
def insB (x : StyX) (p : PomX) : Bool := decide (pm2 x p = 0)
theorem ins_no {x : StyX} {p : PomX} (h : pm2 x p = 3) : insB x p = false := by unfold insB; rw [h]; rfl
theorem ins_yes {x : StyX} {p : PomX} (h : pm2 x p = 0) : insB x p = true := by unfold insB; rw [h]; rfl
theorem pm2_or (x : StyX) (p : PomX) : pm2 x p = 3 ∨ pm2 x p = 0 := by
  unfold pm2 pm3
  split
  · exact Or.inl rfl
  · split
    · exact Or.inl rfl
    · exact Or.inr rfl
set_option maxRecDepth 100000 in
set_option maxHeartbeats 6400000 in
theorem rins_any (a : StyA) (x : StyX) (q : PomA) (p : PomX) (w : World) (hs : StyXAt w a x) (hp : PomAt w q p) (hes : p.es.length = p.ps.length) :
    Calls Tryz.prog 34 #[a.val, q.val] w fun e w' => e = .returned (.bool (insB x p)) ∧ Ext w w' := by
  have HS := Lib.hid hs
  have HP := Lib.hid hp
  clear hs hp
  obtain ⟨nm, AS, nS, cS, AM, nM, cM, AP, nP, cP, AU, nU, cU, AK, nK, cK, AO, nO, cO⟩ := a
  have HLP : Hid (x.ps.length = nP) := HS.out.lP
  have hbP : nP ≤ 9223372036854775807 := HS.out.bP
  have HPS := Lib.hid HS.out.P
  clear HS
  obtain ⟨pn, pAP, pnP, pcP, pAE, pnE, pcE, ppl, pmi⟩ := q
  have HQP : Hid (p.ps.length = pnP) := HP.out.lP
  have HQE : Hid (p.es.length = pnE) := HP.out.lE
  have HQL : Hid (p.pl = ppl) := HP.out.pl.symm
  have HQM : Hid (p.mi = pmi) := HP.out.mi.symm
  have HQA := Lib.hid HP.out.P
  have HQB := Lib.hid HP.out.E
  have hbq : pnP ≤ 9223372036854775807 := HP.out.bP
  obtain rfl : pnP = pnE := by have := HQP.out; have := HQE.out; omega
  clear HP hes
  simp only [StyA.val, PomA.val] at HPS HQA HQB ⊢
  obtain ⟨IB, hIB⟩ : ∃ IB, IB = insB x p := ⟨_, rfl⟩
  rw [← hIB]
  have HIB := Lib.hid hIB; clear hIB
  go_enter Tryz.func34, Tryz.ntmps34
  go_upto_region 1 with fail
  refine wp_at fun W0 hW0 => ?_
  obtain ⟨hb0, hh0⟩ : ∃ z, z = w.heap.size := ⟨_, rfl⟩
  have HB0 : Hid (Blk 29 W0 w.heap.size [.string nm, .slice AS nS cS, .slice AM nM cM, .slice AP nP cP, .slice AU nU cU, .slice AK nK cK, .slice AO nO cO]) := by show Blk _ _ _ _; rw [hW0]; exact (Blk.new' rfl).ext ((Ext.refl _).alloc _)
  have HN0 : Hid (Blk 36 W0 (w.heap.size + 1) [.string pn, .slice pAP pnP pcP, .slice pAE pnP pcE, .int .i64 ppl, .int .i64 pmi]) := by show Blk _ _ _ _; rw [hW0]; exact Blk.new' (by simp)
  have HX0 : Hid (Ext w W0) := by show Ext _ _; rw [hW0]; exact ((Ext.refl _).alloc _).alloc _
  clear hW0 hh0
  go_wp2_with fail
  go_loopw [5] (fun i wr => ∃ m : Nat, m ≤ pnP ∧ i = .int .i64 m ∧ allB (pomRef x p) m = true ∧ Ext W0 wr) (fun i _ => pnP - (intOf i).toNat)
  case atStart => exact ⟨0, Nat.zero_le _, rfl, rfl, Ext.refl _⟩
  case round =>
    obtain ⟨m, hm, rfl, hall, hx⟩ := hrel
    have HAL3 := Lib.hid hall; have HX := Lib.hid hx; clear hall hx
    obtain ⟨a0, a1, a2, a3, a4⟩ := blk5 (HN0.out.ext HX.out)
    obtain ⟨c0, c1, c2, c3, c4, c5, c6⟩ := blk7 (HB0.out.ext HX.out)
    by_cases hmn : m < pnP
    · obtain ⟨bi, oi, hAI, i0⟩ := (HQA.out.ext (HX0.out.trans HX.out)).g (k := m) (by rw [HQP.out]; exact hmn)
      subst hAI
      obtain ⟨be, oe, hAE, e0⟩ := (HQB.out.ext (HX0.out.trans HX.out)).g (k := m) (by rw [HQE.out]; exact hmn)
      subst hAE
      have HRF : Hid (pomRef x p m = edgeB x.s (gI p.ps m) (gI p.es m)) := rfl
      have HFL : Hid (pomRef x p m = false → IB = false) := fun h => by
        rw [HIB.out]; exact ins_no (by unfold pm2; rw [if_pos (by rw [HQP.out]; exact allB_false hmn h)])
      obtain ⟨pc, hpc⟩ : ∃ pc, pc = gI p.ps m := ⟨_, rfl⟩
      obtain ⟨ed, hed⟩ : ∃ ed, ed = gI p.es m := ⟨_, rfl⟩
      rw [← hpc] at i0 HRF
      rw [← hed] at e0 HRF
      clear hpc hed
      by_cases q0 : pc < 0
      · have HR := Lib.hid (HFL.out (by rw [HRF.out]; exact edge_no (by omega)))
        have q0b : decide (pc < 0) = true := decide_eq_true q0
        go_wp2_with fail
        go_quiet (fail)
        go_wp2_with fail
        go_ret
        exact ⟨ret_bool HR.out.symm, HX0.out.trans (HX.out.drewN _)⟩
      have q0b : decide (pc < 0) = false := decide_eq_false q0
      by_cases q1 : (nP : Int) ≤ pc
      · have HR := Lib.hid (HFL.out (by rw [HRF.out]; exact edge_no (by rw [sps_len, HLP.out]; omega)))
        have q1b : decide ((nP : Int) ≤ pc) = true := decide_eq_true q1
        go_wp2_with fail
        go_quiet (fail)
        go_wp2_with fail
        go_ret
        exact ⟨ret_bool HR.out.symm, HX0.out.trans (HX.out.drewN _)⟩
      have q1b : decide ((nP : Int) ≤ pc) = false := decide_eq_false q1
      by_cases q2 : ed < 0
      · have HR := Lib.hid (HFL.out (by rw [HRF.out]; exact edge_no (by omega)))
        have q2b : decide (ed < 0) = true := decide_eq_true q2
        go_wp2_with fail
        go_quiet (fail)
        go_wp2_with fail
        go_ret
        exact ⟨ret_bool HR.out.symm, HX0.out.trans (HX.out.drewN _)⟩
      have q2b : decide (ed < 0) = false := decide_eq_false q2
      obtain ⟨PC, rfl⟩ := Int.eq_ofNat_of_zero_le (show 0 ≤ pc by omega)
      have hPC : PC < nP := by omega
      have HPCL : Hid (PC < x.ps.length) := by show _ < _; rw [HLP.out]; exact hPC
      obtain ⟨bz, oz, q, hAZ, hq, hcq, _, _⟩ := (HPS.out.ext (HX0.out.trans HX.out)) PC HPCL.out
      subst hAZ
      have d1 := hcq.c1
      obtain ⟨zA, hzA⟩ : ∃ z, z = q.AE := ⟨_, rfl⟩
      obtain ⟨zn, hzn⟩ : ∃ z, z = q.nE := ⟨_, rfl⟩
      obtain ⟨zc, hzc⟩ : ∃ z, z = q.cE := ⟨_, rfl⟩
      rw [← hzA, ← hzn, ← hzc] at d1
      have HZN : Hid ((gPx x.ps PC).p.es.length = zn) := by show _ = _; rw [hzn]; exact hq.le
      clear hq hcq hzA hzn hzc
      by_cases q3 : (zn : Int) ≤ ed
      · have HR := Lib.hid (HFL.out (by rw [HRF.out]; exact edge_no (by rw [Int.toNat_natCast, sps_get HPCL.out, HZN.out]; omega)))
        have q3b : decide ((zn : Int) ≤ ed) = true := decide_eq_true q3
        go_wp2_with fail
        go_quiet (fail)
        go_wp2_with fail
        go_ret
        exact ⟨ret_bool HR.out.symm, HX0.out.trans (HX.out.drewN _)⟩
      have q3b : decide ((zn : Int) ≤ ed) = false := decide_eq_false q3
      have HRT : Hid (pomRef x p m = true) := by show _ = _; rw [HRF.out]; exact edge_yes (by rw [Int.toNat_natCast, sps_get HPCL.out, HZN.out, sps_len, HLP.out]; omega)
      go_wp2_with fail
      go_quiet (fail)
      go_wp2_with fail
      go_roundw
      case rel => exact ⟨m + 1, by omega, by go_num, allB_succ HAL3.out HRT.out, HX.out.drewN _⟩
      case measure => simp [intOf]; omega
    obtain rfl : m = pnP := by omega
    have HPE3 : Hid (pm2 x p = if ppl < 0 ∨ 1073741824 < ppl ∨ pmi < 0 ∨ 1073741824 < pmi then 3 else 0) := by
      show _ = _; unfold pm2; rw [if_neg (by rw [HQP.out, HAL3.out]; simp)]; unfold pm3; rw [HQL.out, HQM.out]
    clear HAL3
    have HFL : Hid (ppl < 0 ∨ 1073741824 < ppl ∨ pmi < 0 ∨ 1073741824 < pmi → IB = false) := fun h => by
      rw [HIB.out]; exact ins_no (by rw [HPE3.out, if_pos h])
    have HFT : Hid (¬ (ppl < 0 ∨ 1073741824 < ppl ∨ pmi < 0 ∨ 1073741824 < pmi) → IB = true) := fun h => by
      rw [HIB.out]; exact ins_yes (by rw [HPE3.out, if_neg h])
    clear HIB
    by_cases q0 : 0 ≤ ppl
    rotate_left
    · have HR := Lib.hid (HFL.out (by omega))
      go_wp2_with fail
      go_ret
      exact ⟨ret_bool HR.out.symm, HX0.out.trans HX.out⟩
    by_cases q1 : ppl ≤ 1073741824
    rotate_left
    · have HR := Lib.hid (HFL.out (by omega))
      go_wp2_with fail
      go_ret
      exact ⟨ret_bool HR.out.symm, HX0.out.trans HX.out⟩
    by_cases q2 : 0 ≤ pmi
    rotate_left
    · have HR := Lib.hid (HFL.out (by omega))
      go_wp2_with fail
      go_ret
      exact ⟨ret_bool HR.out.symm, HX0.out.trans HX.out⟩
    by_cases q3 : pmi ≤ 1073741824
    rotate_left
    · have HR := Lib.hid (HFL.out (by omega))
      go_wp2_with fail
      go_ret
      exact ⟨ret_bool HR.out.symm, HX0.out.trans HX.out⟩
    have HR := Lib.hid (HFT.out (by omega))
    go_wp2_with fail
    go_ret
    exact ⟨ret_bool HR.out.symm, HX0.out.trans HX.out⟩
end Go.Proofs.YtkigmpholnfkbaaGreat
/- garmentref52.Check -/
namespace Go.Proofs.YtkigmpholnfkbaaGreat
open Go.RowKit
set_option maxRecDepth 100000 in
set_option maxHeartbeats 6400000 in
theorem r52Check_any (a : StyA) (x : StyX) (A : Option Addr) (n c : Nat) (l : List PomX) (w : World) (hs : StyXAt w a x) (hN : x.sz.length ≤ 1000) (hZ : ∀ k, k < x.sz.length → (gB x.sz k).size ≤ 1000) (hL : ∀ k, k < x.ps.length → (gPx x.ps k).p.es.length ≤ 1000 ∧ (gPx x.ps k).p.cs.length ≤ 1000)
    (hP : PomsAt w A l) (hl : l.length = n) (hc : n ≤ c) (hc' : c ≤ 9223372036854775807) :
    Calls Tryz.prog 14 #[a.val, .slice A n c] w fun e w' => e = .returned (.int .i64 (spcE x l)) ∧ Ext w w' := by
  have HCC := Lib.hid (fun W (h : Ext w W) => r25Check_any a x W (hs.ext h) hN hZ hL)
  have HCI := Lib.hid (fun W q p (h : Ext w W) (hq : PomAt W q p) (he : p.es.length = p.ps.length) => rins_any a x q p W (hs.ext h) hq he)
  clear hs hN hZ hL
  have HP := Lib.hid hP; clear hP
  have HL := Lib.hid hl; clear hl
  obtain ⟨nm, AS, nS, cS, AM, nM, cM, AP, nP, cP, AU, nU, cU, AK, nK, cK, AO, nO, cO⟩ := a
  simp only [StyA.val, PomA.val] at HCC HCI ⊢
  obtain ⟨SP, hSP⟩ : ∃ SP, SP = spcE x l := ⟨_, rfl⟩
  rw [← hSP]
  unfold spcE at hSP
  have HSP := Lib.hid hSP; clear hSP
  go_enter Tryz.func14, Tryz.ntmps14
  go_wp2_with fail
  refine (HCC.out _ ((Ext.refl _).alloc _)).mono ?_
  rintro e w1 ⟨rfl, he1⟩
  have HB1 : Hid (Blk 29 w1 w.heap.size [.string nm, .slice AS nS cS, .slice AM nM cM, .slice AP nP cP, .slice AU nU cU, .slice AK nK cK, .slice AO nO cO]) := (Blk.new' rfl).ext he1
  have HX1 := Lib.hid (((Ext.refl w).alloc _).trans he1)
  clear he1 HCC
  obtain ⟨SE, hSE⟩ : ∃ SE, SE = styE x := ⟨_, rfl⟩
  rw [← hSE] at HSP ⊢
  clear hSE
  by_cases hz : SE = 0
  rotate_left
  · have hzb : (SE != 0) = true := by simp [hz]
    have HR : Hid (SP = SE) := by show _ = _; rw [HSP.out, if_pos hz]
    clear hz
    go_wp2_with fail
    go_ret
    exact ⟨ret_int HR.out.symm, HX1.out⟩
  subst hz
  by_cases h16 : 16 < n
  · have HR : Hid (SP = 5) := by show _ = _; rw [HSP.out, if_neg (by simp), if_pos (by rw [HL.out]; exact h16)]
    go_wp2_with fail
    go_ret
    exact ⟨ret_int HR.out.symm, HX1.out⟩
  have HR1 : Hid (SP = firstE (pomE x l) l.length) := by show _ = _; rw [HSP.out, if_neg (by simp), if_neg (by rw [HL.out]; exact h16)]
  clear HSP
  go_wp2_with fail
  go_loopw [6] (fun i wr => ∃ k : Nat, k ≤ n ∧ i = .int .i64 k ∧ firstE (pomE x l) k = 0 ∧ Ext w1 wr) (fun i _ => n - (intOf i).toNat)
  case atStart => exact ⟨0, Nat.zero_le _, rfl, rfl, Ext.refl _⟩
  case round =>
    obtain ⟨k, hk, rfl, hall, hx⟩ := hrel
    have HALL := Lib.hid hall; have HX := Lib.hid hx; clear hall hx
    by_cases hlt : k < n
    rotate_left
    · obtain rfl : k = n := by omega
      have HR : Hid (SP = 0) := by show _ = _; rw [HR1.out, HL.out]; exact HALL.out
      go_wp2_with fail
      go_ret
      exact ⟨ret_int HR.out.symm, HX1.out.trans HX.out⟩
    have HKL : Hid (k < l.length) := by show _ < _; rw [HL.out]; exact hlt
    obtain ⟨bp, op, q, hA, hq, hcq⟩ := (HP.out.ext (HX1.out.trans HX.out)) k HKL.out
    subst hA
    have HQ := Lib.hid hq; clear hq
    obtain ⟨pn, pAP, pnP, pcP, pAE, pnE, pcE, ppl, pmi⟩ := q
    have HQN : Hid ((gPm l k).nm = pn) := HQ.out.nm.symm
    have HQP : Hid ((gPm l k).ps.length = pnP) := HQ.out.lP
    have HQE : Hid ((gPm l k).es.length = pnE) := HQ.out.lE
    have hbq : pnP ≤ 9223372036854775807 := HQ.out.bP
    obtain ⟨a0, a1, a2, a3, a4⟩ := hcq
    simp only at a0 a1 a2 a3 a4
    have HPE := Lib.hid (pom_eq x l k)
    rw [HQN.out, HQE.out, HQP.out] at HPE
    have HFA : Hid (pomE x l k ≠ 0 → SP = pomE x l k) := fun h => by rw [HR1.out, firstE_at HKL.out HALL.out h]
    obtain ⟨PE, hPE⟩ : ∃ PE, PE = pomE x l k := ⟨_, rfl⟩
    rw [← hPE] at HPE HFA
    have HPD := Lib.hid hPE; clear hPE
    go_upto_region 10 with fail
    refine wp_at fun wq hWq => ?_
    have hNb : Blk 36 wq wr.heap.size [.string pn, .slice pAP pnP pcP, .slice pAE pnE pcE, .int .i64 ppl, .int .i64 pmi] := by rw [hWq]; exact Blk.new' rfl
    have hxq : Ext wr wq := by rw [hWq]; exact (Ext.refl _).alloc _
    obtain ⟨nb, hnb⟩ : ∃ nb, nb = wr.heap.size := ⟨_, rfl⟩
    rw [← hnb] at hNb ⊢
    have HNB := Lib.hid hNb
    have HXq := Lib.hid (HX.out.trans hxq)
    have HQ' := Lib.hid (HQ.out.ext hxq)
    clear hWq hnb hxq hNb HX a0 a1 a2 a3 a4 HQ
    obtain ⟨a0, a1, a2, a3, a4⟩ := blk5 HNB.out
    go_wp2_with fail
    refine (rname_any pn _).mono ?_
    rintro e w2 ⟨rfl, hw2⟩
    obtain rfl : wq = w2 := hw2
    cases hnb : nameB pn
    · have HR : Hid (SP = 1) := by
        have h1 : PE = 1 := by rw [HPE.out, if_pos (Or.inl hnb)]
        show _ = _; rw [HFA.out (by rw [h1]; decide), h1]
      clear hnb
      go_wp2_with fail
      go_ret
      exact ⟨ret_int HR.out.symm, HX1.out.trans HXq.out⟩
    by_cases g1 : pnE = pnP
    rotate_left
    · have HR : Hid (SP = 1) := by
        have h1 : PE = 1 := by rw [HPE.out, if_pos (Or.inr (Or.inl g1))]
        show _ = _; rw [HFA.out (by rw [h1]; decide), h1]
      have g1b : ((pnP : Int) != (pnE : Int)) = true := by simp; omega
      clear hnb g1
      go_wp2_with fail
      go_ret
      exact ⟨ret_int HR.out.symm, HX1.out.trans HXq.out⟩
    have HEQ := Lib.hid g1
    have g1b : ((pnP : Int) != (pnE : Int)) = false := by simp; omega
    by_cases g2 : pnP = 0
    · have HR : Hid (SP = 1) := by
        have h1 : PE = 1 := by rw [HPE.out, if_pos (Or.inr (Or.inr (Or.inl g2)))]
        show _ = _; rw [HFA.out (by rw [h1]; decide), h1]
      have g2b : ((pnE : Int) == 0) = true := by simp; omega
      clear hnb g1 g2
      go_wp2_with fail
      go_ret
      exact ⟨ret_int HR.out.symm, HX1.out.trans HXq.out⟩
    have g2b : ((pnE : Int) == 0) = false := by simp; omega
    by_cases g3 : 16 < pnP
    · have HR : Hid (SP = 1) := by
        have h1 : PE = 1 := by rw [HPE.out, if_pos (Or.inr (Or.inr (Or.inr g3)))]
        show _ = _; rw [HFA.out (by rw [h1]; decide), h1]
      have g3b : 16 < pnE := by omega
      clear hnb g1 g2
      go_wp2_with fail
      go_ret
      exact ⟨ret_int HR.out.symm, HX1.out.trans HXq.out⟩
    have HPE1 : Hid (PE = pm1 x l k) := by show _ = _; rw [HPE.out, if_neg (by rw [hnb]; simp; omega)]
    have g3b : ¬ 16 < pnE := by omega
    clear hnb g1 HPE
    have hkc : k ≤ c := by omega
    go_wp2_with fail
    clear a0 a1 a2 a3 a4 g2b g1b
    go_loopw [8] (fun i wr => ∃ j : Nat, j ≤ k ∧ i = .int .i64 j ∧ (∀ q, q < j → mdupF l k q = false) ∧ Ext wq wr) (fun i _ => k - (intOf i).toNat)
    case atStart => exact ⟨0, Nat.zero_le _, rfl, fun q hq => absurd hq (Nat.not_lt_zero _), Ext.refl _⟩
    case round =>
      obtain ⟨j, hj, rfl, hall, hx⟩ := hrel
      have HAL2 := Lib.hid hall; have HX := Lib.hid hx; clear hall hx
      obtain ⟨a0, a1, a2, a3, a4⟩ := blk5 (HNB.out.ext HX.out)
      by_cases hjk : j < k
      · obtain ⟨bp', op', q, hA, hq, hcq⟩ := (HP.out.ext ((HX1.out.trans HXq.out).trans HX.out)) j (by have := HKL.out; omega)
        injection hA with hA
        injection hA with e1 e2
        subst e1; subst e2
        have HQJ : Hid ((gPm l j).nm = q.nm) := hq.nm.symm
        clear hq
        obtain ⟨qn, qAP, qnP, qcP, qAE, qnE, qcE, qpl, qmi⟩ := q
        obtain ⟨b0, b1, b2, b3, b4⟩ := hcq
        simp only at b0 b1 b2 b3 b4 HQJ
        cases heq : (qn.toList == pn.toList)
        · have HD : Hid (mdupF l k j = false) := by show _ = _; unfold mdupF; rw [HQJ.out, HQN.out, ← str_eq]; exact heq
          go_wp2_with fail
          go_quiet (fail)
          go_wp2_with fail
          go_roundw
          case rel => exact ⟨j + 1, by omega, by go_num, fun q hq => by
            rcases Nat.lt_succ_iff_lt_or_eq.1 hq with h | h
            · exact HAL2.out q h
            · subst h; exact HD.out, HX.out.drewN _⟩
          case measure => simp [intOf]; omega
        · have HD : Hid (mdupF l k j = true) := by show _ = _; unfold mdupF; rw [HQJ.out, HQN.out, ← str_eq]; exact heq
          have HR : Hid (SP = 7) := by
            have h1 : PE = 7 := by rw [HPE1.out]; unfold pm1; rw [if_pos (any_at hjk HD.out)]
            show _ = _; rw [HFA.out (by rw [h1]; decide), h1]
          go_wp2_with fail
          go_quiet (fail)
          go_wp2_with fail
          go_ret
          exact ⟨ret_int HR.out.symm, (HX1.out.trans HXq.out).trans (HX.out.drewN _)⟩
      obtain rfl : j = k := by omega
      have HPE2 : Hid (PE = pm2 x (gPm l j)) := by show _ = _; rw [HPE1.out]; unfold pm1; rw [if_neg (by rw [any_none HAL2.out]; simp)]
      clear HAL2 HPE1 hjk hj
      obtain ⟨c0, c1, c2, c3, c4, c5, c6⟩ := blk7 (HB1.out.ext (HXq.out.trans HX.out))
      go_wp2_with fail
      refine (HCI.out _ ⟨pn, pAP, pnP, pcP, pAE, pnE, pcE, ppl, pmi⟩ (gPm l j) ((HX1.out.trans HXq.out).trans HX.out) (HQ'.out.ext HX.out) (by rw [HQE.out, HQP.out]; exact HEQ.out)).mono ?_
      rintro e w3 ⟨rfl, he3⟩
      have HX3 := Lib.hid he3; clear he3
      clear a0 a1 a2 a3 a4 c0 c1 c2 c3 c4 c5 c6
      obtain ⟨IB, hIB⟩ : ∃ IB, IB = insB x (gPm l j) := ⟨_, rfl⟩
      rw [← hIB]
      have HIB := Lib.hid hIB; clear hIB
      cases IB
      · have HR : Hid (SP = 3) := by
          have h0 : pm2 x (gPm l j) = 3 := (pm2_or x (gPm l j)).resolve_right fun h => by rw [ins_yes h] at HIB; exact absurd HIB.out (by decide)
          have h1 : PE = 3 := by rw [HPE2.out, h0]
          show _ = _; rw [HFA.out (by rw [h1]; decide), h1]
        go_wp2_with fail
        go_ret
        exact ⟨ret_int HR.out.symm, ((HX1.out.trans HXq.out).trans HX.out).trans HX3.out⟩
      · have HZ : Hid (pomE x l j = 0) := by
          have h0 : pm2 x (gPm l j) = 0 := (pm2_or x (gPm l j)).resolve_left fun h => by rw [ins_no h] at HIB; exact absurd HIB.out (by decide)
          show _ = _; rw [← HPD.out, HPE2.out, h0]
        go_wp2_with fail
        go_roundw
        case rel => exact ⟨j + 1, by omega, by go_num, firstE_succ HALL.out HZ.out, (HXq.out.trans HX.out).trans HX3.out⟩
        case measure => simp [intOf]; omega
end Go.Proofs.YtkigmpholnfkbaaGreat
/- the arguments opened: a style as a whole -/
namespace Go.Proofs.YtkigmpholnfkbaaGreat
open Go.ChangeShapes Go.WideShapes Go.ChangeAt Go.RowKit Go.Deep Go.Joins
section
variable {H : Type} {enc : TypeId × Value → H} {w : World} {base : Nat} {spare : Nat → Bool} {held : Bool}
set_option maxRecDepth 100000 in
theorem strings_open {n : Nat} {cs : List Value} {x : DataW H × List MemPlace} (h : DataW.trod enc Tryz.prog w base spare held n 22 cs = some x) : ∃ A len c l, cs = [.slice A len c] ∧ StrsAt w A l ∧ l.length = len ∧ len ≤ c ∧ c ≤ 9223372036854775807 := by
  rcases open_slice1 Tryz.underlying22 (by kernel_rfl) h with ⟨rfl, _⟩ | ⟨a, len, cap, m, k, V, D, Pl, rfl, hb, hl, hm, hmm, _, hx⟩
  · exact ⟨none, 0, 0, [], rfl, fun _ hk => absurd hk (Nat.not_lt_zero _), rfl, Nat.le_refl _, by omega⟩
  · have hlm : len ≤ m := by rw [hmm]; split <;> omega
    have key : ∀ i, i < len → ∃ s : ByteArray, w.cell? (a.add i) = some (.string s) := fun i hi => by
      obtain ⟨hc, ht'⟩ := hx i (by omega)
      obtain ⟨s, es, _, _⟩ := DataW.trod_string Tryz.underlying9 ht'
      simp at es
      exact ⟨s, by rw [hc, es]⟩
    obtain ⟨f, hf⟩ := choose_lt key
    refine ⟨some a, len, cap, (List.range len).map f, rfl, fun k' hk => ?_, by simp, hl, by unfold maxLen at hm; omega⟩
    simp at hk
    have c0 := hf k' hk
    obtain ⟨b, off, rfl⟩ := plain_of_cell (hf 0 (by omega))
    rw [addr_add] at c0
    exact ⟨b, off, rfl, by rw [c0, gB_eq (by simpa using hk)]; simp⟩
set_option maxRecDepth 100000 in
theorem use_trod {n : Nat} {cs : List Value} {x : DataW H × List MemPlace} (h : DataW.trod enc Tryz.prog w base spare held n 78 cs = some x) : ∃ s : UsX, cs = [.int .i64 s.pc, .int .i64 s.ct, .bool s.pr] := by
  obtain ⟨xs, m, _, _, hlen, hl, hg⟩ := DataW.trod_struct Tryz.underlying78 h
  rw [show Tryz.prog.cellsOf 78 = 3 from by kernel_rfl] at hlen
  match cs, hlen with
  | [c0, c1, c2], _ =>
    have g0 : DataW.trod enc Tryz.prog w base spare held m 3 (([c0, c1, c2].drop 0).take (Tryz.prog.cellsOf 3)) = xs[0]? := hg 0 _ rfl
    have g1 : DataW.trod enc Tryz.prog w base spare held m 3 (([c0, c1, c2].drop 1).take (Tryz.prog.cellsOf 3)) = xs[1]? := hg 1 _ rfl
    have g2 : DataW.trod enc Tryz.prog w base spare held m 4 (([c0, c1, c2].drop 2).take (Tryz.prog.cellsOf 4)) = xs[2]? := hg 2 _ rfl
    rw [show Tryz.prog.cellsOf 3 = 1 from by kernel_rfl] at g0 g1
    rw [show Tryz.prog.cellsOf 4 = 1 from by kernel_rfl] at g2
    match xs, hl with
    | [y0, y1, y2], _ =>
      simp at g0 g1 g2
      obtain ⟨pc, e0, _, _⟩ := DataW.trod_int Tryz.underlying3 g0
      obtain ⟨ct, e1, _, _⟩ := DataW.trod_int Tryz.underlying3 g1
      obtain ⟨pr, e2, _⟩ := DataW.trod_bool Tryz.underlying4 g2
      simp at e0 e1 e2
      subst e0 e1 e2
      exact ⟨⟨pc, ct, pr⟩, rfl⟩
set_option maxRecDepth 100000 in
theorem uses_open {n : Nat} {cs : List Value} {x : DataW H × List MemPlace} (h : DataW.trod enc Tryz.prog w base spare held n 25 cs = some x) : ∃ A len c l, cs = [.slice A len c] ∧ UsesAt w A l ∧ l.length = len ∧ len ≤ c ∧ c ≤ 9223372036854775807 := by
  rcases open_slice Tryz.underlying25 h with ⟨rfl, _⟩ | ⟨a, len, cap, m, k, D, Pl, rfl, hb, hl, hm, hmm, _, hx⟩
  · exact ⟨none, 0, 0, [], rfl, fun _ hk => absurd hk (Nat.not_lt_zero _), rfl, Nat.le_refl _, by omega⟩
  · rw [show Tryz.prog.cellsOf 78 = 3 from by kernel_rfl] at hx
    have hlm : len ≤ m := by rw [hmm]; split <;> omega
    have key : ∀ i, i < len → ∃ s : UsX, (∀ j u, [Value.int .i64 s.pc, .int .i64 s.ct, .bool s.pr][j]? = some u → w.cell? (a.add (i * 3 + j)) = some u) := fun i hi => by
      obtain ⟨cs', hc, ht'⟩ := hx i (by omega)
      obtain ⟨s, rfl⟩ := use_trod ht'
      obtain ⟨_, hlen, hat⟩ := World.cells?_some hc
      refine ⟨s, fun j u hu => ?_⟩
      have hj : j < 3 := by have := (List.getElem?_eq_some_iff.1 hu).1; simpa using this
      have := hat j hj
      rw [add_add] at this
      rw [this, hu]
    obtain ⟨f, hf⟩ := choose_lt key
    refine ⟨some a, len, cap, (List.range len).map f, rfl, fun k' hk => ?_, by simp, hl, by unfold maxLen at hm; omega⟩
    simp at hk
    have hc := hf k' hk
    obtain ⟨b, off, rfl⟩ := plain_of_cell (by simpa using hf 0 (by omega) 0 _ rfl)
    refine ⟨b, off, rfl, ?_⟩
    have hc' : ∀ j u, [Value.int .i64 (f k').pc, .int .i64 (f k').ct, .bool (f k').pr][j]? = some u → w.cell? ⟨b, off + k' * 3 + j, none⟩ = some u := fun j u hu => by
      have := hc j u hu
      rwa [addr_add, ← Nat.add_assoc] at this
    rw [show gU ((List.range len).map f) k' = f k' by unfold gU; simp [hk]]
    exact ⟨hc' 0 _ rfl, hc' 1 _ rfl, hc' 2 _ rfl⟩
set_option maxRecDepth 100000 in
theorem piecesX_open {n : Nat} {cs : List Value} {x : DataW H × List MemPlace} (h : DataW.trod enc Tryz.prog w base spare held n 24 cs = some x) : ∃ A len c l, cs = [.slice A len c] ∧ PiecesX w A l ∧ l.length = len ∧ len ≤ c ∧ c ≤ 9223372036854775807 ∧ ∀ k, k < l.length → WfP (gPx l k).p := by
  rcases open_slice Tryz.underlying24 h with ⟨rfl, _⟩ | ⟨a, len, cap, m, k, D, Pl, rfl, hb, hl, hm, hmm, _, hx⟩
  · exact ⟨none, 0, 0, [], rfl, fun _ hk => absurd hk (Nat.not_lt_zero _), rfl, Nat.le_refl _, by omega, fun _ hk => absurd hk (Nat.not_lt_zero _)⟩
  · rw [show Tryz.prog.cellsOf 52 = 7 from by kernel_rfl] at hx
    have hlm : len ≤ m := by rw [hmm]; split <;> omega
    have key : ∀ i, i < len → ∃ X : PcX, ∃ q : PcA, (∀ j u, (PcA.cells q)[j]? = some u → w.cell? (a.add (i * 7 + j)) = some u) ∧ PcAt w q X.p ∧ WfP X.p ∧ q.nm = X.nm ∧ q.gr = X.gr := fun i hi => by
      obtain ⟨cs', hc, ht'⟩ := hx i (by omega)
      obtain ⟨q, p, rfl, hs, hw⟩ := piece_trodW ht'
      obtain ⟨_, hlen, hat⟩ := World.cells?_some hc
      refine ⟨⟨q.nm, q.gr, p⟩, q, fun j u hu => ?_, hs, hw, rfl, rfl⟩
      have hj : j < 7 := by have := (List.getElem?_eq_some_iff.1 hu).1; simpa using this
      have := hat j hj
      rw [add_add] at this
      rw [this, hu]
    obtain ⟨f, hf⟩ := choose_lt key
    refine ⟨some a, len, cap, (List.range len).map f, rfl, fun k' hk => ?_, by simp, hl, by unfold maxLen at hm; omega, fun k' hk => by
      simp at hk
      obtain ⟨_, _, _, hw, _⟩ := hf k' hk
      rw [gPx_eq (by simpa using hk)]; simpa using hw⟩
    simp at hk
    obtain ⟨q, hc, hs, _, h1, h2⟩ := hf k' hk
    obtain ⟨q0, z0, _⟩ := hf 0 (by omega)
    obtain ⟨b, off, rfl⟩ := plain_of_cell (by simpa using z0 0 _ rfl)
    have e : gPx ((List.range len).map f) k' = f k' := by rw [gPx_eq (by simpa using hk)]; simp
    refine ⟨b, off, q, rfl, by rw [e]; exact hs, ?_, by rw [e]; exact h1, by rw [e]; exact h2⟩
    have hc' : ∀ j u, (PcA.cells q)[j]? = some u → w.cell? ⟨b, off + k' * 7 + j, none⟩ = some u := fun j u hu => by
      have := hc j u hu
      rwa [addr_add, ← Nat.add_assoc] at this
    exact ⟨hc' 0 _ rfl, hc' 1 _ rfl, hc' 2 _ rfl, hc' 3 _ rfl, hc' 4 _ rfl, hc' 5 _ rfl, hc' 6 _ rfl⟩
theorem slice_trod_bd {t e : TypeId} {n : Nat} {cs : List Value} {x : DataW H × List MemPlace} (ht : Tryz.prog.underlying t = some (.slice e)) (h : DataW.trod enc Tryz.prog w base spare held n t cs = some x) : ∃ A len c, cs = [.slice A len c] ∧ len ≤ 9223372036854775807 := by
  rcases open_slice ht h with ⟨rfl, _⟩ | ⟨a, len, cap, m, k, D, Pl, rfl, _, hl, hm, _⟩
  · exact ⟨none, 0, 0, rfl, by omega⟩
  · exact ⟨some a, len, cap, rfl, by unfold maxLen at hm; omega⟩
set_option maxRecDepth 100000 in
theorem style_openX {r : Reach} {b0 : Nat} {v : Value} {d : DataW H} {p : List MemPlace} (hv : Value.okWide Tryz.prog w r b0 29 v) (h : DataW.Trod enc Tryz.prog w base spare held 29 v d p) :
    ∃ a x, v = StyA.val a ∧ StyXAt w a x ∧ ∀ k, k < x.ps.length → WfP (gPx x.ps k).p := by
  obtain ⟨cs, rfl, hsz⟩ := okWide_struct Tryz.underlying29 hv
  obtain ⟨l⟩ := cs
  have hC : Tryz.prog.cellsOf 29 = 7 := by kernel_rfl
  match l, hsz.trans hC with
  | [c0, c1, c2, c3, c4, c5, c6], _ =>
    obtain ⟨fuel, hf⟩ := h
    obtain ⟨xs, n, _, hx, _, hlen, hg⟩ := DataW.trod_struct Tryz.underlying29 hf
    have g0 : DataW.trod enc Tryz.prog w base spare held n 9 (([c0, c1, c2, c3, c4, c5, c6].drop 0).take (Tryz.prog.cellsOf 9)) = xs[0]? := hg 0 _ rfl
    have g1 : DataW.trod enc Tryz.prog w base spare held n 22 (([c0, c1, c2, c3, c4, c5, c6].drop 1).take (Tryz.prog.cellsOf 22)) = xs[1]? := hg 1 _ rfl
    have g2 : DataW.trod enc Tryz.prog w base spare held n 23 (([c0, c1, c2, c3, c4, c5, c6].drop 2).take (Tryz.prog.cellsOf 23)) = xs[2]? := hg 2 _ rfl
    have g3 : DataW.trod enc Tryz.prog w base spare held n 24 (([c0, c1, c2, c3, c4, c5, c6].drop 3).take (Tryz.prog.cellsOf 24)) = xs[3]? := hg 3 _ rfl
    have g4 : DataW.trod enc Tryz.prog w base spare held n 25 (([c0, c1, c2, c3, c4, c5, c6].drop 4).take (Tryz.prog.cellsOf 25)) = xs[4]? := hg 4 _ rfl
    have g5 : DataW.trod enc Tryz.prog w base spare held n 26 (([c0, c1, c2, c3, c4, c5, c6].drop 5).take (Tryz.prog.cellsOf 26)) = xs[5]? := hg 5 _ rfl
    have g6 : DataW.trod enc Tryz.prog w base spare held n 27 (([c0, c1, c2, c3, c4, c5, c6].drop 6).take (Tryz.prog.cellsOf 27)) = xs[6]? := hg 6 _ rfl
    rw [show Tryz.prog.cellsOf 9 = 1 from by kernel_rfl] at g0
    rw [show Tryz.prog.cellsOf 22 = 1 from by kernel_rfl] at g1
    rw [show Tryz.prog.cellsOf 23 = 1 from by kernel_rfl] at g2
    rw [show Tryz.prog.cellsOf 24 = 1 from by kernel_rfl] at g3
    rw [show Tryz.prog.cellsOf 25 = 1 from by kernel_rfl] at g4
    rw [show Tryz.prog.cellsOf 26 = 1 from by kernel_rfl] at g5
    rw [show Tryz.prog.cellsOf 27 = 1 from by kernel_rfl] at g6
    match xs, hlen with
    | [y0, y1, y2, y3, y4, y5, y6], _ =>
      simp at g0 g1 g2 g3 g4 g5 g6
      obtain ⟨nm, e0, _, _⟩ := DataW.trod_string Tryz.underlying9 g0
      obtain ⟨AS, nS, cS, sz, e1, hS, lS, hs1, hs2⟩ := strings_open g1
      obtain ⟨AM, nM, cM, ms, e2, hM, lM, hm1, hm2⟩ := ints_open' g2
      obtain ⟨AP, nP, cP, ps, e3, hP, lP, hp1, hp2, hwP⟩ := piecesX_open g3
      obtain ⟨AU, nU, cU, us, e4, hU, lU, hu1, hu2⟩ := uses_open g4
      obtain ⟨AK, nK, cK, ss, e5, hK, lK, hk1, hk2⟩ := seams_open g5
      obtain ⟨AO, nO, cO, e6, ho⟩ := slice_trod_bd Tryz.underlying27 g6
      simp at e0 e1 e2 e3 e4 e5 e6
      subst e0 e1 e2 e3 e4 e5 e6
      exact ⟨⟨nm, AS, nS, cS, AM, nM, cM, AP, nP, cP, AU, nU, cU, AK, nK, cK, AO, nO, cO⟩, ⟨nm, sz, ms, ps, us, ss, nO⟩, rfl, ⟨rfl, hS, hM, hP, hU, hK, lS, lM, lP, lU, lK, rfl, by simp only; omega, by simp only; omega, by simp only; omega, by simp only; omega, by simp only; omega, ho, hp1, hs1⟩, hwP⟩
end
end Go.Proofs.YtkigmpholnfkbaaGreat
/- the arguments opened: points of measure -/
namespace Go.Proofs.YtkigmpholnfkbaaGreat
open Go.ChangeShapes Go.WideShapes Go.ChangeAt Go.RowKit Go.Deep Go.Joins
section
variable {H : Type} {enc : TypeId × Value → H} {w : World} {base : Nat} {spare : Nat → Bool} {held : Bool}
set_option maxRecDepth 100000 in
theorem pom_trod {n : Nat} {cs : List Value} {x : DataW H × List MemPlace} (h : DataW.trod enc Tryz.prog w base spare held n 36 cs = some x) : ∃ (a : PomA) (p : PomX), cs = PomA.cells a ∧ PomAt w a p := by
  obtain ⟨xs, m, _, _, hlen, hl, hg⟩ := DataW.trod_struct Tryz.underlying36 h
  rw [show Tryz.prog.cellsOf 36 = 5 from by kernel_rfl] at hlen
  match cs, hlen with
  | [c0, c1, c2, c3, c4], _ =>
    have g0 : DataW.trod enc Tryz.prog w base spare held m 9 (([c0, c1, c2, c3, c4].drop 0).take (Tryz.prog.cellsOf 9)) = xs[0]? := hg 0 _ rfl
    have g1 : DataW.trod enc Tryz.prog w base spare held m 23 (([c0, c1, c2, c3, c4].drop 1).take (Tryz.prog.cellsOf 23)) = xs[1]? := hg 1 _ rfl
    have g2 : DataW.trod enc Tryz.prog w base spare held m 23 (([c0, c1, c2, c3, c4].drop 2).take (Tryz.prog.cellsOf 23)) = xs[2]? := hg 2 _ rfl
    have g3 : DataW.trod enc Tryz.prog w base spare held m 3 (([c0, c1, c2, c3, c4].drop 3).take (Tryz.prog.cellsOf 3)) = xs[3]? := hg 3 _ rfl
    have g4 : DataW.trod enc Tryz.prog w base spare held m 3 (([c0, c1, c2, c3, c4].drop 4).take (Tryz.prog.cellsOf 3)) = xs[4]? := hg 4 _ rfl
    rw [show Tryz.prog.cellsOf 9 = 1 from by kernel_rfl] at g0
    rw [show Tryz.prog.cellsOf 23 = 1 from by kernel_rfl] at g1 g2
    rw [show Tryz.prog.cellsOf 3 = 1 from by kernel_rfl] at g3 g4
    match xs, hl with
    | [y0, y1, y2, y3, y4], _ =>
      simp at g0 g1 g2 g3 g4
      obtain ⟨nm, e0, _, _⟩ := DataW.trod_string Tryz.underlying9 g0
      obtain ⟨AP, nP, cP, ps, e1, hP, lP, hp1, hp2⟩ := ints_open' g1
      obtain ⟨AE, nE, cE, es, e2, hE, lE, he1, he2⟩ := ints_open' g2
      obtain ⟨pl, e3, _, _⟩ := DataW.trod_int Tryz.underlying3 g3
      obtain ⟨mi, e4, _, _⟩ := DataW.trod_int Tryz.underlying3 g4
      simp at e0 e1 e2 e3 e4
      subst e0 e1 e2 e3 e4
      exact ⟨⟨nm, AP, nP, cP, AE, nE, cE, pl, mi⟩, ⟨nm, ps, es, pl, mi⟩, rfl, ⟨rfl, hP, lP, hE, lE, rfl, rfl, by simp only; omega, by simp only; omega⟩⟩
set_option maxRecDepth 100000 in
theorem poms_open {n : Nat} {cs : List Value} {x : DataW H × List MemPlace} (h : DataW.trod enc Tryz.prog w base spare held n 30 cs = some x) : ∃ A len c l, cs = [.slice A len c] ∧ PomsAt w A l ∧ l.length = len ∧ len ≤ c ∧ c ≤ 9223372036854775807 := by
  rcases open_slice Tryz.underlying30 h with ⟨rfl, _⟩ | ⟨a, len, cap, m, k, D, Pl, rfl, hb, hl, hm, hmm, _, hx⟩
  · exact ⟨none, 0, 0, [], rfl, fun _ hk => absurd hk (Nat.not_lt_zero _), rfl, Nat.le_refl _, by omega⟩
  · rw [show Tryz.prog.cellsOf 36 = 5 from by kernel_rfl] at hx
    have hlm : len ≤ m := by rw [hmm]; split <;> omega
    have key : ∀ i, i < len → ∃ X : PomX, ∃ q : PomA, (∀ j u, (PomA.cells q)[j]? = some u → w.cell? (a.add (i * 5 + j)) = some u) ∧ PomAt w q X := fun i hi => by
      obtain ⟨cs', hc, ht'⟩ := hx i (by omega)
      obtain ⟨q, p, rfl, hs⟩ := pom_trod ht'
      obtain ⟨_, hlen, hat⟩ := World.cells?_some hc
      refine ⟨p, q, fun j u hu => ?_, hs⟩
      have hj : j < 5 := by have := (List.getElem?_eq_some_iff.1 hu).1; simpa using this
      have := hat j hj
      rw [add_add] at this
      rw [this, hu]
    obtain ⟨f, hf⟩ := choose_lt key
    refine ⟨some a, len, cap, (List.range len).map f, rfl, fun k' hk => ?_, by simp, hl, by unfold maxLen at hm; omega⟩
    simp at hk
    obtain ⟨q, hc, hs⟩ := hf k' hk
    obtain ⟨q0, z0, _⟩ := hf 0 (by omega)
    obtain ⟨b, off, rfl⟩ := plain_of_cell (by simpa using z0 0 _ rfl)
    have e : gPm ((List.range len).map f) k' = f k' := by rw [gPm_eq (by simpa using hk)]; simp
    refine ⟨b, off, q, rfl, by rw [e]; exact hs, ?_⟩
    have hc' : ∀ j u, (PomA.cells q)[j]? = some u → w.cell? ⟨b, off + k' * 5 + j, none⟩ = some u := fun j u hu => by
      have := hc j u hu
      rwa [addr_add, ← Nat.add_assoc] at this
    exact ⟨hc' 0 _ rfl, hc' 1 _ rfl, hc' 2 _ rfl, hc' 3 _ rfl, hc' 4 _ rfl⟩
set_option maxRecDepth 100000 in
theorem pom_arg {r : Reach} {b0 : Nat} {v : Value} {d : DataW H} {p : List MemPlace} (hv : Value.okWide Tryz.prog w r b0 36 v) (h : DataW.Trod enc Tryz.prog w base spare held 36 v d p) : ∃ a q, v = PomA.val a ∧ PomAt w a q := by
  obtain ⟨cs, rfl, hsz⟩ := okWide_struct Tryz.underlying36 hv
  obtain ⟨l⟩ := cs
  obtain ⟨fuel, hf⟩ := h
  obtain ⟨a, q, e, h1⟩ := pom_trod hf
  have e' : l = PomA.cells a := e
  subst e'
  exact ⟨a, q, rfl, h1⟩
set_option maxRecDepth 100000 in
theorem poms_arg {r : Reach} {b0 : Nat} {v : Value} {d : DataW H} {p : List MemPlace} (hv : Value.okWide Tryz.prog w r b0 30 v) (h : DataW.Trod enc Tryz.prog w base spare held 30 v d p) : ∃ A n c l, v = .slice A n c ∧ PomsAt w A l ∧ l.length = n ∧ n ≤ c ∧ c ≤ 9223372036854775807 := by
  obtain ⟨a, len, cap, rfl⟩ := okWide_slice Tryz.underlying30 hv
  obtain ⟨fuel, hf⟩ := h
  obtain ⟨A, n, c, l, e, hi, hl, h1, h2⟩ := poms_open hf
  simp [Value.cells] at e
  obtain ⟨rfl, rfl, rfl⟩ := e
  exact ⟨_, _, _, l, rfl, hi, hl, h1, h2⟩
end
end Go.Proofs.YtkigmpholnfkbaaGreat
/- the law SpecChecks, walked -/
namespace Go.Proofs.YtkigmpholnfkbaaGreat
open Go.RowKit
theorem LtX.ll {x : StyX} (h : LtX x) : ∀ k, k < x.ps.length → (gPx x.ps k).p.es.length ≤ 1000 ∧ (gPx x.ps k).p.cs.length ≤ 1000 := fun k hk => ⟨Nat.le_trans (h.p k hk).1.e (by omega), Nat.le_trans (h.p k hk).1.c (by omega)⟩
set_option maxRecDepth 100000 in
set_option maxHeartbeats 6400000 in
theorem checksL_any (a : StyA) (x : StyX) (A : Option Addr) (n c : Nat) (l : List PomX) (w : World) (hs : StyXAt w a x)
    (hP : PomsAt w A l) (hl : l.length = n) (hc : n ≤ c) (hc' : c ≤ 9223372036854775807) :
    Calls Tryz.prog 3 #[a.val, .slice A n c] w fun e w' => e = .returned (.bool true) ∧ Ext w w' := by
  have HSM := Lib.hid (fun W (h : Ext w W) => small_any a x A n c l W (hs.ext h) (hP.ext h) hl (Nat.le_trans hc hc'))
  have HCA := Lib.hid (fun (hlt : LtX x) W (h : Ext w W) => spCheck_any a x A n c l W (hs.ext h) hlt.n hlt.zz (hP.ext h) hl hc hc')
  have HCB := Lib.hid (fun (hlt : LtX x) W (h : Ext w W) => r52Check_any a x A n c l W (hs.ext h) hlt.n hlt.zz hlt.ll (hP.ext h) hl hc hc')
  clear hs hP hl
  obtain ⟨nm, AS, nS, cS, AM, nM, cM, AP, nP, cP, AU, nU, cU, AK, nK, cK, AO, nO, cO⟩ := a
  simp only [StyA.val] at HSM HCA HCB ⊢
  obtain ⟨SP, hSP⟩ : ∃ y, y = spcE x l := ⟨_, rfl⟩
  rw [← hSP] at HCA HCB
  clear hSP
  go_enter Tryz.func3, Tryz.ntmps3
  go_wp2_with fail
  refine (HSM.out _ ((Ext.refl _).alloc _)).mono ?_
  rintro e w1 ⟨b, rfl, he1, hb⟩
  have HB1 : Hid (Blk 29 w1 w.heap.size [.string nm, .slice AS nS cS, .slice AM nM cM, .slice AP nP cP, .slice AU nU cU, .slice AK nK cK, .slice AO nO cO]) := (Blk.new' rfl).ext he1
  have HX1 := Lib.hid (((Ext.refl w).alloc _).trans he1)
  have HB := Lib.hid hb
  clear he1 hb HSM
  cases b
  · go_wp2_with fail
    refine (awake_any _).mono ?_
    rintro e w2 ⟨rfl, he2⟩
    go_wp2_with fail
    go_ret
    exact ⟨rfl, HX1.out.trans he2⟩
  obtain ⟨hlt, hfw⟩ := HB.out rfl
  have HA : Hid (∀ W, Ext w1 W → _) := Lib.hid (fun W (h : Ext w1 W) => HCA.out hlt W (HX1.out.trans h))
  have HBB : Hid (∀ W, Ext w1 W → _) := Lib.hid (fun W (h : Ext w1 W) => HCB.out hlt W (HX1.out.trans h))
  clear HCA HCB hlt hfw HB
  obtain ⟨c0, c1, c2, c3, c4, c5, c6⟩ := blk7 HB1.out
  have z0 := fun z : After w1 => After.cell c0 z
  have z1 := fun z : After w1 => After.cell c1 z
  have z2 := fun z : After w1 => After.cell c2 z
  have z3 := fun z : After w1 => After.cell c3 z
  have z4 := fun z : After w1 => After.cell c4 z
  have z5 := fun z : After w1 => After.cell c5 z
  have z6 := fun z : After w1 => After.cell c6 z
  have hee : (SP == SP) = true := by simp
  go_wp2_with fail
  refine region_ext (by kernel_rfl) (by kernel_rfl) ?_
  repeat (first
    | go_big_quiet_step (first
      | (go_at_call 13; exact after_call (HA.out _ (After.ext _)))
      | (go_at_call 14; exact after_call (HBB.out _ (After.ext _)))
      | (go_at_call 12; exact after_call (awake_any _)))
    | (go_big_quiet_want; go_simp; go_big_quiet_on))
  refine wpQuiet_nil ?_
  rintro w4 ⟨⟨_, he4⟩, rfl⟩
  go_wp2_with fail
  go_ret
  exact ⟨rfl, HX1.out.trans he4⟩
end Go.Proofs.YtkigmpholnfkbaaGreat
/- the arguments opened: rows of numbers with their bounds; numbers of 16 and 8 bits -/
namespace Go.Proofs.YtkigmpholnfkbaaGreat
open Go.ChangeShapes Go.WideShapes Go.ChangeAt Go.RowKit Go.Deep Go.Joins
section
variable {H : Type} {enc : TypeId × Value → H} {w : World} {base : Nat} {spare : Nat → Bool} {held : Bool}
set_option maxRecDepth 100000 in
theorem intsB_arg {r : Reach} {b0 : Nat} {v : Value} {d : DataW H} {p : List MemPlace} (hv : Value.okWide Tryz.prog w r b0 23 v) (h : DataW.Trod enc Tryz.prog w base spare held 23 v d p) : ∃ A n c l, v = .slice A n c ∧ IntsAt w A l ∧ l.length = n ∧ n ≤ 9223372036854775807 := by
  obtain ⟨a, len, cap, rfl⟩ := okWide_slice Tryz.underlying23 hv
  obtain ⟨fuel, hf⟩ := h
  obtain ⟨A, n, c, l, e, hi, hl, h1, h2⟩ := ints_open' hf
  simp [Value.cells] at e
  obtain ⟨rfl, rfl, rfl⟩ := e
  exact ⟨_, _, _, l, rfl, hi, hl, by omega⟩
set_option maxRecDepth 100000 in
theorem u16_open {r : Reach} {b0 : Nat} {v : Value} {d : DataW H} {p : List MemPlace} (hv : Value.okWide Tryz.prog w r b0 59 v) (h : DataW.Trod enc Tryz.prog w base spare held 59 v d p) : ∃ n : Nat, v = .int .u16 (n : Int) ∧ n < 65536 := by
  obtain ⟨a, rfl⟩ := okWide_int Tryz.underlying59 hv
  obtain ⟨fuel, hf⟩ := h
  obtain ⟨b, eb, _, wb⟩ := DataW.trod_int Tryz.underlying59 hf
  simp [Value.cells] at eb
  subst eb
  obtain ⟨h1, h2⟩ := bounds_u16 wb
  obtain ⟨n, rfl⟩ := Int.eq_ofNat_of_zero_le h1
  exact ⟨n, rfl, by omega⟩
set_option maxRecDepth 100000 in
theorem u8_open {r : Reach} {b0 : Nat} {v : Value} {d : DataW H} {p : List MemPlace} (hv : Value.okWide Tryz.prog w r b0 5 v) (h : DataW.Trod enc Tryz.prog w base spare held 5 v d p) : ∃ n : Nat, v = .int .u8 (n : Int) ∧ n < 256 := by
  obtain ⟨a, rfl⟩ := okWide_int Tryz.underlying5 hv
  obtain ⟨fuel, hf⟩ := h
  obtain ⟨b, eb, _, wb⟩ := DataW.trod_int Tryz.underlying5 hf
  simp [Value.cells] at eb
  subst eb
  obtain ⟨h1, h2⟩ := bounds_u8 wb
  obtain ⟨n, rfl⟩ := Int.eq_ofNat_of_zero_le h1
  exact ⟨n, rfl, by omega⟩
end
end Go.Proofs.YtkigmpholnfkbaaGreat
namespace Go.Proofs.YtkigmpholnfkbaaGreat
open Go.ChangeShapes Go.WideShapes Go.ChangeAt Go.RowKit Go.Deep Go.Joins
set_option maxRecDepth 100000 in
theorem specChecks_lifted (os : Os) (started : os.Started) (H : Type) (enc : TypeId × Value → H) :
    ReturnsInHanded {} Tryz.checked os 3 .any (Rows.specChecksSpec.pre6 enc Tryz.prog Tryz.f3 Rows.specChecksRow.domain false) (Rows.specChecksSpec.post enc Tryz.prog Tryz.f3 false true false false) := by
  refine returnsInHanded_of_change (C := Tryz.checked) Tryz.own started (by kernel_rfl) Tryz.func3
    (ChangeSpec.witness6 (enc := enc) (C := Tryz.checked) false ⟨#[], #[.agg #[.string ⟨#[]⟩, .slice none 0 0, .slice none 0 0, .slice none 0 0, .slice none 0 0, .slice none 0 0, .slice none 0 0], .slice none 0 0], []⟩ 8 (by kernel_rfl) (by kernel_rfl) (by kernel_rfl) (by kernel_rfl)) ?_
  intro W base args ds gs before hval0 hW hcnd _
  have hval : ∀ (j : Nat) t v, Tryz.f3.params[j]? = some t → args[j]? = some v → Value.okWide Tryz.prog W .any base t v := hval0
  have hW' := hW
  obtain ⟨p, q, hA0, hV, rfl, hfz, hnd⟩ := hW
  have hA : DataW.TrodAll enc Tryz.prog W 0 (fun _ => true) true Tryz.f3.params.toList args.toList ds p := hA0
  rw [Tryz.params3] at hA hval
  obtain ⟨v0, vs0, d0, ds0, p0, q0, hargs, rfl, rfl, h0, r0⟩ := trodAll_cons hA
  obtain ⟨v1, vs1, d1, ds1, p1, q1, rfl, rfl, rfl, h1, r1⟩ := trodAll_cons r0
  obtain ⟨rfl, rfl, rfl⟩ := trodAll_nil r1
  obtain rfl : args = #[v0, v1] := by cases args; simp_all
  obtain ⟨rfl, rfl⟩ := trodVars_none hV
  have k0 := h0
  have lt0 : ∀ x ∈ p0, x.block < W.heap.size := by obtain ⟨m, hm⟩ := k0; exact DataW.trod_lt m _ _ _ hm
  obtain ⟨a0, s0, hv0, hS0, wS0⟩ := style_openX (hval 0 29 v0 rfl rfl) h0
  subst hv0
  have k1 := h1
  have lt1 : ∀ x ∈ p1, x.block < W.heap.size := by obtain ⟨m, hm⟩ := k1; exact DataW.trod_lt m _ _ _ hm
  obtain ⟨A1, n1, c1, l1, hv1, hS1, lS1, hc1, hc1'⟩ := poms_arg (hval 1 30 v1 rfl rfl) h1
  subst hv1
  clear hA0 hval0
  refine (checksL_any a0 s0 A1 n1 c1 l1 W hS0 hS1 lS1 hc1 hc1').mono fun e W' ⟨he, bel⟩ => ?_
  subst he
  exact ⟨_, rfl, _, _, _, [], _, [], hW', trodAll_mk1 (shut_bool Tryz.underlying4 _), (trodAll_cons_mk (Below.trod Tryz.laidOut (by kernel_rfl) (of_decide_eq_true (by kernel_rfl)) k0 bel lt0) (trodAll_cons_mk (Below.trod Tryz.laidOut (by kernel_rfl) (of_decide_eq_true (by kernel_rfl)) k1 bel lt1) trodAll_mk0)), rfl, Below.frame bel _, fun h => by cases h⟩
theorem specChecks_holds : Rows.SpecChecksSaid :=
  OpenClaim.holds_of_wide 3 Tryz.f3 rfl rfl rfl rfl rfl rfl rfl ⟨rfl, rfl, rfl, rfl, rfl⟩ rfl rfl rfl rfl rfl (by kernel_rfl) Tryz.func3 (by kernel_rfl)
    (of_decide_eq_true (by kernel_rfl)) (by unfold Func.isWrapper; first | (rw [if_pos (by decide +kernel)]; kernel_rfl) | (rw [if_neg (by decide +kernel)]; exact ⟨rfl, rfl⟩))
    (fun os started H enc _ => specChecks_lifted os started H enc)
end Go.Proofs.YtkigmpholnfkbaaGreat

