/- style.Check -/
import Derived.Test.YtkigmpholnfkbaaGreatKStW
namespace Go.Proofs.YtkigmpholnfkbaaGreat
open Go.RowKit
theorem blk3 {t : TypeId} {w : World} {g : Nat} {v0 v1 v2 : Value} (h : Blk t w g [v0, v1, v2]) : w.cell? ⟨g, 0, none⟩ = some v0 ∧ w.cell? ⟨g, 1, none⟩ = some v1 ∧ w.cell? ⟨g, 2, none⟩ = some v2 := ⟨h.cell 0, h.cell 1, h.cell 2⟩
def st3 (x : StyX) : Int := firstE (joinE x) x.ss.length
def st2 (x : StyX) : Int := if firstE (useE x) x.us.length ≠ 0 then firstE (useE x) x.us.length else st3 x
def st1 (x : StyX) : Int := if firstE (pieceE x.ps) x.ps.length ≠ 0 then firstE (pieceE x.ps) x.ps.length else st2 x
theorem sty_eq (x : StyX) : styE x = if wholeE x ≠ 0 then wholeE x else st1 x := rfl
theorem firstE_in {f : Nat → Int} {n k : Nat} (hk : k < n) (h0 : firstE f k = 0) (h : f k ≠ 0) {y : Int} : (if firstE f n ≠ 0 then firstE f n else y) = f k := by
  rw [firstE_at hk h0 h, if_pos h]
theorem firstE_out {f : Nat → Int} {n : Nat} (h0 : firstE f n = 0) {y : Int} : (if firstE f n ≠ 0 then firstE f n else y) = y := by
  rw [if_neg (fun h => h h0)]
set_option maxRecDepth 100000 in
set_option maxHeartbeats 6400000 in
theorem styCheck_any (a : StyA) (x : StyX) (w : World) (hs : StyXAt w a x) (hN : x.sz.length ≤ 1000) (hZ : ∀ k, k < x.sz.length → (gB x.sz k).size ≤ 1000) :
    Calls Tryz.prog 24 #[a.val] w fun e w' => e = .returned (.int .i64 (styE x)) ∧ Ext w w' := by
  have HS := Lib.hid hs
  have HCW := Lib.hid (fun W (h : Ext w W) => checkWhole_any a x W (hs.ext h) hN hZ)
  have HCE := Lib.hid (fun p q W (h : Ext w W) => stEdge_any a x p q W (hs.ext h))
  clear hs hN hZ
  obtain ⟨nm, AS, nS, cS, AM, nM, cM, AP, nP, cP, AU, nU, cU, AK, nK, cK, AO, nO, cO⟩ := a
  have HLP : Hid (x.ps.length = nP) := HS.out.lP
  have HLU : Hid (x.us.length = nU) := HS.out.lU
  have HLK : Hid (x.ss.length = nK) := HS.out.lK
  have hbP : nP ≤ 9223372036854775807 := HS.out.bP
  have hbU : nU ≤ 9223372036854775807 := HS.out.bU
  have hbK : nK ≤ 9223372036854775807 := HS.out.bK
  have hcP : nP ≤ cP := HS.out.cP
  have HPS := Lib.hid HS.out.P
  have HUS := Lib.hid HS.out.U
  have HKS := Lib.hid HS.out.K
  simp only [StyA.val] at HCW HCE HPS HUS HKS ⊢
  clear HS
  obtain ⟨SE, hSE⟩ : ∃ SE, SE = styE x := ⟨_, rfl⟩
  rw [← hSE]
  rw [sty_eq] at hSE
  have HSE := Lib.hid hSE; clear hSE
  go_enter Tryz.func24, Tryz.ntmps24
  go_wp2_with fail
  refine (HCW.out _ ((Ext.refl _).alloc _)).mono ?_
  rintro e w1 ⟨rfl, he1⟩
  have HB1 : Hid (Blk 29 w1 w.heap.size [.string nm, .slice AS nS cS, .slice AM nM cM, .slice AP nP cP, .slice AU nU cU, .slice AK nK cK, .slice AO nO cO]) := (Blk.new' rfl).ext he1
  have HX1 := Lib.hid (((Ext.refl w).alloc _).trans he1)
  clear he1
  obtain ⟨c0, c1, c2, c3, c4, c5, c6⟩ := blk7 HB1.out
  obtain ⟨WE, hWE⟩ : ∃ WE, WE = wholeE x := ⟨_, rfl⟩
  rw [← hWE] at HSE ⊢
  clear hWE
  by_cases hz : WE = 0
  rotate_left
  · have hzb : (WE != 0) = true := by simp [hz]
    have HR : Hid (SE = WE) := by show _ = _; rw [HSE.out, if_pos hz]
    clear hz
    go_wp2_with fail
    go_ret
    exact ⟨ret_int HR.out.symm, HX1.out⟩
  subst hz
  have HR1 : Hid (SE = st1 x) := by show _ = _; rw [HSE.out, if_neg (by simp)]
  clear HSE
  go_wp2_with fail
  clear c0 c1 c2 c3 c4 c5 c6
  go_loopw [19] (fun i wr => ∃ k : Nat, k ≤ nP ∧ i = .int .i64 k ∧ firstE (pieceE x.ps) k = 0 ∧ Ext w1 wr) (fun i _ => nP - (intOf i).toNat)
  case atStart => exact ⟨0, Nat.zero_le _, rfl, rfl, Ext.refl _⟩
  case round =>
    obtain ⟨k, hk, rfl, hall, hx⟩ := hrel
    have HALL := Lib.hid hall; have HX := Lib.hid hx; clear hall hx
    obtain ⟨c0, c1, c2, c3, c4, c5, c6⟩ := blk7 (HB1.out.ext HX.out)
    by_cases hlt : k < nP
    · have HKL : Hid (k < x.ps.length) := by show _ < _; rw [HLP.out]; exact hlt
      obtain ⟨bp, op, q, hAP, hpA, hcA, hqn, hqg⟩ := (HPS.out.ext (HX1.out.trans HX.out)) k HKL.out
      subst hAP
      have HCP := Lib.hid (fun W (h : Ext wr W) => checkPiece_any (some ⟨bp, op, none⟩) x.ps k cP q W (((HPS.out.ext (HX1.out.trans HX.out)).ext h).take k) HKL.out (by omega) (hpA.ext h) hqn hqg)
      clear hpA hqn hqg
      obtain ⟨pnm, pAE, pnE, pcE, pgr, pAN, pnN, pcN, pAC, pnC, pcC, pAW, pnW, pcW, pmt⟩ := q
      obtain ⟨a0, a1, a2, a3, a4, a5, a6⟩ := hcA
      simp only [PcA.val] at HCP a0 a1 a2 a3 a4 a5 a6
      have hpl : w.heap.size < wr.heap.size := (HB1.out.ext HX.out).lt
      obtain ⟨PE, hPE⟩ : ∃ PE, PE = pieceE x.ps k := ⟨_, rfl⟩
      rw [← hPE] at HCP
      have HPE := Lib.hid hPE; clear hPE
      go_upto_region 7 with fail
      refine wp_at fun wq hWq => ?_
      have hNb : Blk 52 wq wr.heap.size [.string pnm, .slice pAE pnE pcE, .int .i64 pgr, .slice pAN pnN pcN, .slice pAC pnC pcC, .slice pAW pnW pcW, .bool pmt] := by rw [hWq]; exact Blk.new' rfl
      have hxq : Ext wr wq := by rw [hWq]; exact (Ext.refl _).alloc _
      obtain ⟨nb, hnb⟩ : ∃ nb, nb = wr.heap.size := ⟨_, rfl⟩
      rw [← hnb] at hNb ⊢
      have HXq := Lib.hid hxq
      have HCQ := Lib.hid (fun W (h : Ext wq W) => HCP.out W (hxq.trans h))
      have HBq := Lib.hid ((HB1.out.ext HX.out).ext hxq)
      clear hWq hnb hxq HCP a0 a1 a2 a3 a4 a5 a6 c0 c1 c2 c3 c4 c5 c6 hpl
      obtain ⟨a0, a1, a2, a3, a4, a5, a6⟩ := blk7 hNb
      obtain ⟨c0, c1, c2, c3, c4, c5, c6⟩ := blk7 HBq.out
      clear hNb
      have z0 := fun z : After wq => After.cell c3 z
      have y0 := fun z : After wq => After.cell a0 z
      have y1 := fun z : After wq => After.cell a1 z
      have y2 := fun z : After wq => After.cell a2 z
      have y3 := fun z : After wq => After.cell a3 z
      have y4 := fun z : After wq => After.cell a4 z
      have y5 := fun z : After wq => After.cell a5 z
      have y6 := fun z : After wq => After.cell a6 z
      have hkc : k ≤ cP := by omega
      refine region_ext (by kernel_rfl) (by kernel_rfl) ?_
      repeat (first | go_big_quiet_step ((go_at_call 45; exact after_call (HCQ.out _ (After.ext _)))) | (go_big_quiet_want; go_simp; go_big_quiet_on))
      refine wpQuiet_nil ?_
      rintro w4 ⟨⟨_, he4⟩, rfl⟩
      have HX4 := Lib.hid ((HX.out.trans HXq.out).trans he4)
      clear z0 y0 y1 y2 y3 y4 y5 y6 a0 a1 a2 a3 a4 a5 a6 c0 c1 c2 c3 c4 c5 c6 he4 HCQ HBq
      by_cases hz : PE = 0
      · have HZ : Hid (pieceE x.ps k = 0) := by show _ = _; rw [← HPE.out]; exact hz
        have hzb : (PE != 0) = false := by simp [hz]
        clear hz
        go_wp2_with fail
        go_roundw
        case rel => exact ⟨k + 1, by omega, by go_num, firstE_succ HALL.out HZ.out, HX4.out⟩
        case measure => simp [intOf]; omega
      · have hzb : (PE != 0) = true := by simp [hz]
        have HR : Hid (SE = PE) := by show _ = _; rw [HR1.out]; unfold st1; rw [firstE_in HKL.out HALL.out (by rw [← HPE.out]; exact hz), HPE.out]
        clear hz
        go_wp2_with fail
        go_ret
        exact ⟨ret_int HR.out.symm, HX1.out.trans HX4.out⟩
    obtain rfl : k = nP := by omega
    have HR2 : Hid (SE = st2 x) := by show _ = _; rw [HR1.out]; unfold st1; rw [firstE_out (by rw [HLP.out]; exact HALL.out)]
    clear HALL HR1 hk hlt
    obtain ⟨W1, hW1⟩ : ∃ W1 : World, W1 = wr := ⟨_, rfl⟩
    rw [← hW1] at c0 c1 c2 c3 c4 c5 c6 HX ⊢
    clear hW1
    have HXW := Lib.hid (HX1.out.trans HX.out)
    have HBW := Lib.hid (HB1.out.ext HX.out)
    clear HX
    go_wp2_with fail
    clear c0 c1 c2 c3 c4 c5 c6
    go_loopw [37] (fun i wr => ∃ m : Nat, m ≤ nU ∧ i = .int .i64 m ∧ firstE (useE x) m = 0 ∧ Ext W1 wr) (fun i _ => nU - (intOf i).toNat)
    case atStart => exact ⟨0, Nat.zero_le _, rfl, rfl, Ext.refl _⟩
    case round =>
      obtain ⟨m, hm, rfl, hall, hx⟩ := hrel
      have HALL := Lib.hid hall; have HX := Lib.hid hx; clear hall hx
      obtain ⟨c0, c1, c2, c3, c4, c5, c6⟩ := blk7 (HBW.out.ext HX.out)
      by_cases hlt : m < nU
      · have HML : Hid (m < x.us.length) := by show _ < _; rw [HLU.out]; exact hlt
        obtain ⟨bu, ou, hAU, u0, u1, u2'⟩ := (HUS.out.ext (HXW.out.trans HX.out)) m HML.out
        subst hAU
        obtain ⟨pc, hpc⟩ : ∃ v, v = (gU x.us m).pc := ⟨_, rfl⟩
        obtain ⟨ct, hct⟩ : ∃ v, v = (gU x.us m).ct := ⟨_, rfl⟩
        obtain ⟨pr, hpr⟩ : ∃ v, v = (gU x.us m).pr := ⟨_, rfl⟩
        rw [← hpc] at u0; rw [← hct] at u1; rw [← hpr] at u2'
        have HPC := Lib.hid hpc; have HCT := Lib.hid hct; clear hpc hct hpr
        have hpl : w.heap.size < wr.heap.size := (HBW.out.ext HX.out).lt
        have HAL : Hid (Ext W1 (wr.alloc (.cells #[.int .i64 pc, .int .i64 ct, .bool pr] 78))) := HX.out.alloc _
        have HUE : Hid (useE x m = if pc < 0 ∨ (k : Int) ≤ pc ∨ ct < 1 ∨ 4 < ct then 3 else 0) := by show _ = _; unfold useE; rw [← HPC.out, ← HCT.out, HLP.out]
        by_cases g0 : pc < 0
        · have HR : Hid (SE = 3) := by show _ = _; rw [HR2.out]; unfold st2; rw [firstE_in HML.out HALL.out (by rw [HUE.out, if_pos (by omega)]; decide), HUE.out, if_pos (by omega)]
          go_wp2_with fail
          go_ret
          exact ⟨ret_int HR.out.symm, HXW.out.trans HAL.out⟩
        by_cases g1 : (k : Int) ≤ pc
        · have HR : Hid (SE = 3) := by show _ = _; rw [HR2.out]; unfold st2; rw [firstE_in HML.out HALL.out (by rw [HUE.out, if_pos (by omega)]; decide), HUE.out, if_pos (by omega)]
          go_wp2_with fail
          go_ret
          exact ⟨ret_int HR.out.symm, HXW.out.trans HAL.out⟩
        by_cases g2 : ct < 1
        · have HR : Hid (SE = 3) := by show _ = _; rw [HR2.out]; unfold st2; rw [firstE_in HML.out HALL.out (by rw [HUE.out, if_pos (by omega)]; decide), HUE.out, if_pos (by omega)]
          go_wp2_with fail
          go_ret
          exact ⟨ret_int HR.out.symm, HXW.out.trans HAL.out⟩
        by_cases g3 : 4 < ct
        · have HR : Hid (SE = 3) := by show _ = _; rw [HR2.out]; unfold st2; rw [firstE_in HML.out HALL.out (by rw [HUE.out, if_pos (by omega)]; decide), HUE.out, if_pos (by omega)]
          go_wp2_with fail
          go_ret
          exact ⟨ret_int HR.out.symm, HXW.out.trans HAL.out⟩
        have HZ : Hid (useE x m = 0) := by show _ = _; rw [HUE.out, if_neg (by omega)]
        go_wp2_with fail
        go_roundw
        case rel => exact ⟨m + 1, by omega, by go_num, firstE_succ HALL.out HZ.out, HAL.out⟩
        case measure => simp [intOf]; omega
      obtain rfl : m = nU := by omega
      have HR3 : Hid (SE = st3 x) := by show _ = _; rw [HR2.out]; unfold st2; rw [firstE_out (by rw [HLU.out]; exact HALL.out)]
      clear HALL HR2 hm hlt
      obtain ⟨W2, hW2⟩ : ∃ W2 : World, W2 = wr := ⟨_, rfl⟩
      rw [← hW2] at c0 c1 c2 c3 c4 c5 c6 HX ⊢
      clear hW2
      have HXV := Lib.hid (HXW.out.trans HX.out)
      have HBV := Lib.hid (HBW.out.ext HX.out)
      clear HX
      go_wp2_with fail
      clear c0 c1 c2 c3 c4 c5 c6
      go_loopw [66] (fun i wr => ∃ m : Nat, m ≤ nK ∧ i = .int .i64 m ∧ firstE (joinE x) m = 0 ∧ Ext W2 wr) (fun i _ => nK - (intOf i).toNat)
      case atStart => exact ⟨0, Nat.zero_le _, rfl, rfl, Ext.refl _⟩
      case round =>
        obtain ⟨j, hj, rfl, hall, hx⟩ := hrel
        have HALL := Lib.hid hall; have HX := Lib.hid hx; clear hall hx
        obtain ⟨c0, c1, c2, c3, c4, c5, c6⟩ := blk7 (HBV.out.ext HX.out)
        by_cases hlt : j < nK
        · have HJL : Hid (j < x.ss.length) := by show _ < _; rw [HLK.out]; exact hlt
          obtain ⟨bs, os, hAK, hsm⟩ := (HKS.out.ext (HXV.out.trans HX.out)) j HJL.out
          subst hAK
          have HJE : Hid (joinE x j = if ¬ (edgeB x.s (gSm x.ss j).pa (gSm x.ss j).ea = true ∧ edgeB x.s (gSm x.ss j).pb (gSm x.ss j).eb = true) then 3 else if (gSm x.ss j).ease < 0 then 1 else 0) := rfl
          obtain ⟨sm, hsmd⟩ : ∃ sm, sm = gSm x.ss j := ⟨_, rfl⟩
          rw [← hsmd] at hsm HJE
          clear hsmd
          obtain ⟨pa, ea, pb, eb, rv, es⟩ := sm
          obtain ⟨k0, k1, k2, k3, k4, k5⟩ := hsm
          simp only at k0 k1 k2 k3 k4 k5 HJE
          have hpl : w.heap.size < wr.heap.size := (HBV.out.ext HX.out).lt
          have HXL : Hid (Ext wr (wr.alloc (.cells #[.int .i64 pa, .int .i64 ea, .int .i64 pb, .int .i64 eb, .bool rv, .int .i64 es] 80))) := (Ext.refl _).alloc _
          go_wp2_with fail
          refine (HCE.out pa ea _ ((HXV.out.trans HX.out).trans HXL.out)).mono ?_
          rintro e w2 ⟨rfl, he2⟩
          have HSB : Hid (Blk 80 w2 wr.heap.size [.int .i64 pa, .int .i64 ea, .int .i64 pb, .int .i64 eb, .bool rv, .int .i64 es]) := (Blk.new' rfl).ext he2
          have HB2 := Lib.hid (((HBV.out.ext HX.out).ext HXL.out).ext he2)
          have HX2 := Lib.hid ((HX.out.trans HXL.out).trans he2)
          clear he2 HXL c0 c1 c2 c3 c4 c5 c6 k0 k1 k2 k3 k4 k5 hpl
          obtain ⟨c0, c1, c2, c3, c4, c5, c6⟩ := blk7 HB2.out
          obtain ⟨k0, k1, k2, k3, k4, k5⟩ := blk6 HSB.out
          cases hea : edgeB x.s pa ea
          · have HR : Hid (SE = 3) := by
              have hj3 : joinE x j = 3 := by rw [HJE.out, if_pos (fun h => by rw [hea] at h; cases h.1)]
              show _ = _; rw [HR3.out]; unfold st3; rw [firstE_at HJL.out HALL.out (by rw [hj3]; decide), hj3]
            clear hea
            go_wp2_with fail
            go_ret
            exact ⟨ret_int HR.out.symm, HXV.out.trans HX2.out⟩
          have HEA := Lib.hid hea; clear hea
          go_wp2_with fail
          refine (HCE.out pb eb _ (HXV.out.trans HX2.out)).mono ?_
          rintro e w3 ⟨rfl, he3⟩
          have HSB3 := Lib.hid (HSB.out.ext he3); have HX3 := Lib.hid (HX2.out.trans he3)
          clear he3 c0 c1 c2 c3 c4 c5 c6 k0 k1 k2 k3 k4 k5
          obtain ⟨k0, k1, k2, k3, k4, k5⟩ := blk6 HSB3.out
          cases heb : edgeB x.s pb eb
          · have HR : Hid (SE = 3) := by
              have hj3 : joinE x j = 3 := by rw [HJE.out, if_pos (fun h => by rw [heb] at h; cases h.2)]
              show _ = _; rw [HR3.out]; unfold st3; rw [firstE_at HJL.out HALL.out (by rw [hj3]; decide), hj3]
            clear heb
            go_wp2_with fail
            go_ret
            exact ⟨ret_int HR.out.symm, HXV.out.trans HX3.out⟩
          have HJ2 : Hid (joinE x j = if es < 0 then 1 else 0) := by show _ = _; rw [HJE.out, if_neg (fun h => h ⟨HEA.out, heb⟩)]
          clear heb HJE HEA
          by_cases g0 : es < 0
          · have HR : Hid (SE = 1) := by
              have hj3 : joinE x j = 1 := by rw [HJ2.out, if_pos g0]
              show _ = _; rw [HR3.out]; unfold st3; rw [firstE_at HJL.out HALL.out (by rw [hj3]; decide), hj3]
            go_wp2_with fail
            go_ret
            exact ⟨ret_int HR.out.symm, HXV.out.trans HX3.out⟩
          have HZ : Hid (joinE x j = 0) := by show _ = _; rw [HJ2.out, if_neg g0]
          go_wp2_with fail
          go_roundw
          case rel => exact ⟨j + 1, by omega, by go_num, firstE_succ HALL.out HZ.out, HX3.out⟩
          case measure => simp [intOf]; omega
        obtain rfl : j = nK := by omega
        have HR : Hid (SE = 0) := by show _ = _; rw [HR3.out]; unfold st3; rw [HLK.out]; exact HALL.out
        go_wp2_with fail
        go_ret
        exact ⟨ret_int HR.out.symm, HXV.out.trans HX.out⟩
end Go.Proofs.YtkigmpholnfkbaaGreat
