/- NotchIssues returns true -/
import Derived.Deep.CutRange
import Derived.Deep.RegionHeld3
import Derived.Test.YtliijigdbpmpaaaKAwake
import Derived.Test.YtliijigdbpmpaaaKLAlone
/- R21.Light, said of a piece -/
namespace Go.Proofs.Ytliijigdbpmpaaa
open Go.RowKit
structure LtP (p : Pc) (most : Nat) : Prop where
  e : p.es.length ≤ 20
  c : p.cs.length ≤ 20
  w : p.ws.length ≤ 20
  n : p.ns.length ≤ 20
  l : ∀ k, k < p.es.length → (gE p.es k).2.length ≤ most ∧ (gE p.es k).1.size ≤ 100
theorem lightP_any (a : PcA) (p : Pc) (most : Nat) (hm : most ≤ 1000) (w : World) (hp : PcAt w a p) :
    Calls Try.prog 26 #[a.val, .int .i64 (most : Int)] w fun e w' => ∃ b, e = .returned (.bool b) ∧ Ext w w' ∧ (b = true → LtP p most) :=
  (light_any a.nm a.AE a.AN a.AC a.AW a.nE a.cE a.nN a.cN a.nC a.cC a.nW a.cW a.gr a.mt p.es w most hm hp.e hp.le).mono fun e w' ⟨b, h1, h2, h3⟩ => ⟨b, h1, h2, fun hb => by
    obtain ⟨g1, g2, g3, g4, g5⟩ := h3 hb
    exact ⟨g1, by rw [hp.lc]; exact g2, by rw [hp.li]; exact g3, by rw [hp.ln]; exact g4, g5⟩⟩
end Go.Proofs.Ytliijigdbpmpaaa
/- garmentref23.Light -/
namespace Go.Proofs.Ytliijigdbpmpaaa
open Go.RowKit
def RetL3 (w : World) (p : Pc) (e : Ending) (w' : World) : Prop := ∃ b, e = .returned (.bool b) ∧ Ext w w' ∧ (b = true → LtP p 60)
set_option maxRecDepth 100000 in
set_option maxHeartbeats 1600000 in
theorem light3_any (a : PcA) (p : Pc) (w : World) (hp : PcAt w a p) :
    Calls Try.prog 9 #[a.val] w (RetL3 w p) := by
  have HL := Lib.hid (fun W (h : Ext w W) => lightP_any a p 60 (by omega) W (hp.ext h))
  clear hp
  obtain ⟨nm, AE, nE, cE, gr, AN, nN, cN, AC, nC, cC, AW, nW, cW, mt⟩ := a
  simp only [PcA.val] at HL ⊢
  go_enter Try.func9, Try.ntmps9
  go_wp2_with fail
  refine (HL.out _ ((Ext.refl _).alloc _)).mono ?_
  rintro e w1 ⟨b, rfl, he, hb⟩
  have HX := Lib.hid (((Ext.refl w).alloc _).trans he); have HB := Lib.hid hb
  clear he hb
  go_wp2_with fail
  go_ret
  exact ⟨b, rfl, HX.out, HB.out⟩
end Go.Proofs.Ytliijigdbpmpaaa
/- garmentref23.Few -/
namespace Go.Proofs.Ytliijigdbpmpaaa
open Go.RowKit
structure FwS (s : Sty) : Prop where
  P : s.ps.length ≤ 4
  K : s.ss.length ≤ 6
  M : s.ms.length ≤ 20
  p : ∀ k, k < s.ps.length → LtP (gPc s.ps k) 60
def RetFw (w : World) (s : Sty) (e : Ending) (w' : World) : Prop := ∃ b, e = .returned (.bool b) ∧ Ext w w' ∧ (b = true → FwS s)
set_option maxRecDepth 100000 in
set_option maxHeartbeats 1600000 in
theorem few_any (a : StyA) (s : Sty) (w : World) (hs : StyAt w a s) :
    Calls Try.prog 20 #[a.val] w (RetFw w s) := by
  have HS := Lib.hid hs; clear hs
  obtain ⟨nm, AS, nS, cS, AM, nM, cM, AP, nP, cP, AU, nU, cU, AK, nK, cK, AO, nO, cO⟩ := a
  have HLP : Hid (s.ps.length = nP) := HS.out.lP
  have HLK : Hid (s.ss.length = nK) := HS.out.lK
  have HLM : Hid (s.ms.length = nM) := HS.out.lM
  have HPS := Lib.hid HS.out.P
  simp only [StyA.val] at HPS ⊢
  by_cases h1 : 4 < nP
  · go_enter Try.func20, Try.ntmps20
    go_wp2_with fail
    go_ret
    exact ⟨_, rfl, (Ext.refl _).alloc _, fun h => by cases h⟩
  by_cases h2 : 6 < nK
  · go_enter Try.func20, Try.ntmps20
    go_wp2_with fail
    go_ret
    exact ⟨_, rfl, (Ext.refl _).alloc _, fun h => by cases h⟩
  by_cases h3 : 20 < nM
  · go_enter Try.func20, Try.ntmps20
    go_wp2_with fail
    go_ret
    exact ⟨_, rfl, (Ext.refl _).alloc _, fun h => by cases h⟩
  by_cases h4 : 20 < nS
  · go_enter Try.func20, Try.ntmps20
    go_wp2_with fail
    go_ret
    exact ⟨_, rfl, (Ext.refl _).alloc _, fun h => by cases h⟩
  go_enter Try.func20, Try.ntmps20
  go_wp2_with fail
  refine wp_at fun W0 hW0 => ?_
  have hB : Blk 59 W0 w.heap.size [.string nm, .slice AS nS cS, .slice AM nM cM, .slice AP nP cP, .slice AU nU cU, .slice AK nK cK, .slice AO nO cO] := by rw [hW0]; exact Blk.new' rfl
  have hx0 : Ext w W0 := by rw [hW0]; exact (Ext.refl _).alloc _
  have HB := Lib.hid hB; have HX0 := Lib.hid hx0; clear hW0 hB hx0
  go_loopw [3] (fun i wr => ∃ k : Nat, k ≤ nP ∧ i = .int .i64 k ∧ (∀ j, j < k → LtP (gPc s.ps j) 60) ∧ Ext W0 wr) (fun i _ => nP - (intOf i).toNat)
  case atStart => exact ⟨0, Nat.zero_le _, rfl, fun j hj => absurd hj (Nat.not_lt_zero _), Ext.refl _⟩
  case round =>
    obtain ⟨k, hk, rfl, hall, hx⟩ := hrel
    have HALL := Lib.hid hall; have HX := Lib.hid hx; clear hall hx
    obtain ⟨c0, c1, c2, c3, c4, c5, c6⟩ := blk7 (HB.out.ext HX.out)
    by_cases hlt : k < nP
    · obtain ⟨bp, op, q, hAP, hpA, hcA⟩ := (HPS.out.ext (HX0.out.trans HX.out)) k (by rw [HLP.out]; exact hlt)
      subst hAP
      have HC := Lib.hid (light3_any q (gPc s.ps k) wr hpA)
      clear hpA
      obtain ⟨pnm, pAE, pnE, pcE, pgr, pAN, pnN, pcN, pAC, pnC, pcC, pAW, pnW, pcW, pmt⟩ := q
      obtain ⟨a0, a1, a2, a3, a4, a5, a6⟩ := hcA
      simp only [PcA.val] at HC a0 a1 a2 a3 a4 a5 a6
      go_wp2_with fail
      refine HC.out.mono ?_
      rintro e w1 ⟨b, rfl, he1, hb⟩
      clear a0 a1 a2 a3 a4 a5 a6 c0 c1 c2 c3 c4 c5 c6
      cases b
      · go_wp2_with fail
        go_ret
        exact ⟨_, rfl, (HX0.out.trans HX.out).trans he1, fun h => by cases h⟩
      · have HLT := Lib.hid (hb rfl); clear hb
        go_wp2_with fail
        go_roundw
        case rel => exact ⟨k + 1, by omega, by go_num, fun j hj => by
          rcases Nat.lt_succ_iff_lt_or_eq.1 hj with h | h
          · exact HALL.out j h
          · subst h; exact HLT.out, HX.out.trans he1⟩
        case measure => simp [intOf]; omega
    · obtain rfl : k = nP := by omega
      go_wp2_with fail
      go_ret
      exact ⟨_, rfl, HX0.out.trans HX.out, fun _ => ⟨by rw [HLP.out]; omega, by rw [HLK.out]; omega, by rw [HLM.out]; omega, fun j hj => HALL.out j (by rw [← HLP.out]; exact hj)⟩⟩
end Go.Proofs.Ytliijigdbpmpaaa
namespace Go.Proofs.Ytliijigdbpmpaaa
open Go.RowKit
set_option maxRecDepth 100000 in
set_option maxHeartbeats 6400000 in
theorem issuesL_any (a : StyA) (s : Sty) (z : Int) (w : World) (hs : StyAt w a s) :
    Calls Try.prog 6 #[a.val, .int .i64 z] w fun e w' => e = .returned (.bool true) ∧ Ext w w' := by
  have HS := Lib.hid hs; clear hs
  have H1 := Lib.hid (fun W (h : Ext w W) => few_any a s W (HS.out.ext h))
  have H2 := Lib.hid (fun W (h : Ext w W) (hf : FwS s) => unmatched_any a s z W (HS.out.ext h) (by have := hf.K; rw [HS.out.lK] at this; omega))
  have H3 := Lib.hid (fun (k : Nat) W (h : Ext w W) => lengths_any a s z (k : Int) W (HS.out.ext h))
  have HLK := Lib.hid HS.out.lK
  have HLP := Lib.hid HS.out.lP
  have HLM := Lib.hid HS.out.lM
  have HKS := Lib.hid HS.out.K
  have HPS := Lib.hid HS.out.P
  have HMS := Lib.hid HS.out.M
  obtain ⟨nm, AS, nS, cS, AM, nM, cM, AP, nP, cP, AU, nU, cU, AK, nK, cK, AO, nO, cO⟩ := a
  simp only [StyA.val] at H1 H2 H3 HLK HLP HLM HKS HPS HMS ⊢
  clear HS
  go_enter Try.func6, Try.ntmps6
  go_wp2_with fail
  refine (H1.out _ ((Ext.refl _).alloc _)).mono ?_
  rintro e w1 ⟨b, rfl, he1, hb⟩
  have HB1 : Hid (Blk 59 w1 w.heap.size [.string nm, .slice AS nS cS, .slice AM nM cM, .slice AP nP cP, .slice AU nU cU, .slice AK nK cK, .slice AO nO cO]) := (Blk.new' rfl).ext he1
  have HX1 := Lib.hid (((Ext.refl w).alloc _).trans he1)
  clear he1
  cases b
  · clear hb
    go_wp2_with fail
    refine (awake_any _).mono ?_
    rintro e w2 ⟨rfl, he2⟩
    go_wp2_with fail
    go_ret
    exact ⟨rfl, HX1.out.trans he2⟩
  have HFW := Lib.hid (hb rfl); clear hb
  have hK6 : nK ≤ 6 := by rw [← HLK.out]; exact HFW.out.K
  obtain ⟨c0, c1, c2, c3, c4, c5, c6⟩ := blk7 HB1.out
  go_wp2_with fail
  refine (H2.out _ HX1.out HFW.out).mono ?_
  rintro e w2 ⟨v, rfl, hv, hv', he2⟩
  have HX2 := Lib.hid (HX1.out.trans he2); have HB2 := Lib.hid (HB1.out.ext he2)
  clear he2 c0 c1 c2 c3 c4 c5 c6
  by_cases hz : unmE s z = 0
  rotate_left
  · have hvf := hv' hz
    subst hvf
    have hzb : (unmE s z != 0) = true := by simp [hz]
    generalize unmE s z = E at hzb
    clear hv hv' hz
    go_wp2_with fail
    refine (awake_any _).mono ?_
    rintro e w3 ⟨rfl, he3⟩
    go_wp2_with fail
    go_ret
    exact ⟨rfl, HX2.out.trans he3⟩
  have hO := hv hz
  obtain ⟨hsz, hok⟩ := unmE_zero.1 hz
  have HOK := Lib.hid hok
  have HLE := Lib.hid (unm_le hok)
  obtain ⟨n, hn⟩ : ∃ n, (unmL s z).length = n := ⟨_, rfl⟩
  obtain ⟨AL, cL, hvf, hIL⟩ := OwnK.slice' (n := n) hO hn
  subst hvf
  have HIL := Lib.hid hIL; have HN := Lib.hid hn
  have hn192 : n ≤ 192 := by rw [← hn]; have := HLE.out s.ss.length (Nat.le_refl _); unfold unmL; rw [HLK.out] at *; omega
  rw [hz]
  have hszd : 0 ≤ z ∧ z < s.ms.length := by unfold sizeB at hsz; exact of_decide_eq_true hsz
  obtain ⟨Z, rfl⟩ := Int.eq_ofNat_of_zero_le hszd.1
  have hZ : Z < nM := by have := hszd.2; rw [HLM.out] at this; omega
  clear hv hv' hz hO hsz hok hIL hn hszd
  go_wp2_with fail
  go_loopw [7, 8] (fun c i wr => ∃ k : Nat, k ≤ nK ∧ i = .int .i64 k ∧ c = .int .i64 ((unmTo s (Z : Int) k).length : Int) ∧ Ext w2 wr) (fun _ i _ => nK - (intOf i).toNat)
  case atStart => exact ⟨0, Nat.zero_le _, rfl, rfl, Ext.refl _⟩
  case round =>
    obtain ⟨k, hk, rfl, hc, hx⟩ := hrel
    have hCle := HLE.out k (by rw [HLK.out]; exact hk)
    have HEND : Hid (k = nK → (unmTo s (Z : Int) k).length = n) := fun h => by rw [← HN.out, h]; unfold unmL; rw [HLK.out]
    have HSUC : Hid (∀ hkl : k < s.ss.length, _) := fun hkl => unm_len (HOK.out k hkl) hkl
    obtain ⟨C, hC⟩ : ∃ C, C = (unmTo s (Z : Int) k).length := ⟨_, rfl⟩
    rw [← hC] at hc hCle HEND HSUC
    clear hC
    subst hc
    obtain ⟨wr0, rfl⟩ : ∃ wr0 : World, wr0 = wr := ⟨_, rfl⟩
    have HX := Lib.hid hx; clear hx
    obtain ⟨c0, c1, c2, c3, c4, c5, c6⟩ := blk7 (HB2.out.ext HX.out)
    by_cases hlt : k < nK
    rotate_left
    · obtain rfl : k = nK := by omega
      obtain rfl : C = n := HEND.out rfl
      have s1 : ((C : Int) == C) = true := by simp
      clear HEND HSUC
      go_wp2_with fail
      refine (awake_any _).mono ?_
      rintro e w3 ⟨rfl, he3⟩
      go_wp2_with fail
      go_ret
      exact ⟨rfl, (HX2.out.trans HX.out).trans he3⟩
    clear HEND
    have hkl : k < s.ss.length := by rw [HLK.out]; exact hlt
    have HKL := Lib.hid hkl
    have hseam := HOK.out k hkl
    have hlens := hseam.lens hkl
    have HI1 : Hid (∀ i : Nat, i < _ → _) := fun i hi => iss_first (i := i) hseam hkl hi
    have HI2 : Hid (∀ i : Nat, i < _ → _) := fun i hi => iss_second (i := i) hseam hkl hi
    have hsu := HSUC.out hkl
    have e1 := edgeB_iff hseam.ea; have e2 := edgeB_iff hseam.eb
    have hpa := hseam.a; have hpb := hseam.b
    clear HSUC hseam
    obtain ⟨bk, ok, hAK, hsm⟩ := (HKS.out.ext (HX2.out.trans HX.out)) k hkl
    subst hAK
    obtain ⟨sm, hsmd⟩ : ∃ sm, sm = gSm s.ss k := ⟨_, rfl⟩
    rw [← hsmd] at hsm hlens HI1 HI2 hsu e1 e2 hpa hpb
    obtain ⟨pa, ea, pb, eb, rv, es⟩ := sm
    clear hsmd
    obtain ⟨k0, k1, k2, k3, k4, k5⟩ := hsm
    simp only at k0 k1 k2 k3 k4 k5 hlens HI1 HI2 hsu e1 e2 hpa hpb
    obtain ⟨PA, rfl⟩ := Int.eq_ofNat_of_zero_le e1.1
    obtain ⟨PB, rfl⟩ := Int.eq_ofNat_of_zero_le e2.1
    simp only [Int.toNat_natCast] at hlens HI1 HI2 hsu e1 e2 hpa hpb
    have hPA : PA < nP := by have := e1.2.1; rw [HLP.out] at this; omega
    have hPB : PB < nP := by have := e2.2.1; rw [HLP.out] at this; omega
    clear e1 e2 hkl
    obtain ⟨bpA, opA, qa, hAP, hpa0, hcA⟩ := (HPS.out.ext (HX2.out.trans HX.out)) PA (by rw [HLP.out]; exact hPA)
    subst hAP
    obtain ⟨bpB, opB, qb, hAP, hpb0, hcB⟩ := (HPS.out.ext (HX2.out.trans HX.out)) PB (by rw [HLP.out]; exact hPB)
    injection hAP with hAP
    injection hAP with h1 h2
    subst h1 h2
    obtain ⟨P, hP⟩ : ∃ P, P = gPc s.ps PA := ⟨_, rfl⟩
    obtain ⟨Q, hQ⟩ : ∃ Q, Q = gPc s.ps PB := ⟨_, rfl⟩
    obtain ⟨M, hM⟩ : ∃ M, M = gI s.ms Z := ⟨_, rfl⟩
    obtain ⟨bm, om, hAM, m0⟩ := (HMS.out.ext (HX2.out.trans HX.out)).g (k := Z) (by rw [HLM.out]; exact hZ)
    subst hAM
    rw [← hM] at m0
    rw [← hP] at hpa0
    rw [← hQ] at hpb0
    rw [← hP, ← hQ, ← hM] at hlens HI1 HI2 hsu
    rw [← hP, ← hM] at hpa
    rw [← hQ, ← hM] at hpb
    clear hP hQ hM
    have HPA := Lib.hid (fun W (h : Ext wr0 W) => placedS_any qa P M W (hpa0.ext h))
    have HPB := Lib.hid (fun W (h : Ext wr0 W) => placedS_any qb Q M W (hpb0.ext h))
    have hL1 := fun W (h : Ext wr0 W) A1 c1 A2 c2 (hA : IntsAt W A1 (plL P M)) (hB : IntsAt W A2 (plL Q M)) => lalone_any AL n cL (unmL s (Z : Int)) 1 (k : Int) 0 qa qb P Q M ea eb rv A1 A2 c1 c2 W (HIL.out.ext (HX.out.trans h)) HN.out (by omega) (hpa0.ext h) (hpb0.ext h) hA hB hpa hpb HI1.out
    have hL2 := fun W (h : Ext wr0 W) A1 c1 A2 c2 (hA : IntsAt W A1 (plL P M)) (hB : IntsAt W A2 (plL Q M)) => lalone_any AL n cL (unmL s (Z : Int)) 2 (k : Int) 0 qb qa Q P M eb ea rv A2 A1 c2 c1 W (HIL.out.ext (HX.out.trans h)) HN.out (by omega) (hpb0.ext h) (hpa0.ext h) hB hA hpb hpa HI2.out
    have HPZ := Lib.hid (plE_zero.2 hpa); have HQZ := Lib.hid (plE_zero.2 hpb)
    have hb1 := lonTo_len P Q M ea eb rv P.ns.length
    have hb2 := lonTo_len Q P M eb ea rv Q.ns.length
    have hb3 := hpa.n; have hb4 := hpb.n
    obtain ⟨L1, hL1d⟩ : ∃ x, x = (lonL P Q M ea eb rv).length := ⟨_, rfl⟩
    obtain ⟨L2, hL2d⟩ : ∃ x, x = (lonL Q P M eb ea rv).length := ⟨_, rfl⟩
    have hb5 : L1 ≤ 16 := by rw [hL1d]; unfold lonL; omega
    have hb6 : L2 ≤ 16 := by rw [hL2d]; unfold lonL; omega
    rw [← hL1d] at hL1 hsu
    rw [← hL2d] at hL2 hsu
    generalize grdN P M ea.toNat = FA at hlens hL1 hL2
    generalize grdN Q M eb.toNat = FB at hlens hL1 hL2
    have HL1 := Lib.hid hL1; have HL2 := Lib.hid hL2; have HSU := Lib.hid hsu
    have HLNA : Hid (P.ns.length = qa.nN) := hpa0.ln
    have HLNB : Hid (Q.ns.length = qb.nN) := hpb0.ln
    have HLEN : Hid (lensV s (Z : Int) (k : Int) = ((FA : Int), (FB : Int), 0)) := hlens
    clear hL1 hL2 hL1d hL2d hb1 hb2 hb3 hb4 hlens HI1 HI2 hsu hpa hpb hpa0 hpb0
    obtain ⟨nmA, AEA, nEA, cEA, grA, ANA, nNA, cNA, ACA, nCA, cCA, AWA, nWA, cWA, mtA⟩ := qa
    obtain ⟨nmB, AEB, nEB, cEB, grB, ANB, nNB, cNB, ACB, nCB, cCB, AWB, nWB, cWB, mtB⟩ := qb
    obtain ⟨a0, a1, a2, a3, a4, a5, a6⟩ := hcA
    obtain ⟨b0, b1, b2, b3, b4, b5, b6⟩ := hcB
    simp only [PcA.val] at HPA HPB HL1 HL2 HLNA HLNB a0 a1 a2 a3 a4 a5 a6 b0 b1 b2 b3 b4 b5 b6
    have hkl0 := cell_lt k0
    have hwl : w.heap.size < wr0.heap.size := (HB2.out.ext HX.out).lt
    have hkk : (k : Int) < nK := by omega
    have hkk0 : (0 : Int) ≤ k := by omega
    have hA0 : (0 : Int) ≤ (PA : Int) := by omega
    have hA1 : (PA : Int) < nP := by omega
    have hB0 : (0 : Int) ≤ (PB : Int) := by omega
    have hB1 : (PB : Int) < nP := by omega
    have t0 : decide ((Z : Int) < 0) = false := decide_eq_false (by omega)
    have t1 : decide (nM ≤ Z) = false := decide_eq_false (by omega)
    have t2 : decide ((PA : Int) < 0) = false := decide_eq_false (by omega)
    have t3 : decide (nP ≤ PA) = false := decide_eq_false (by omega)
    have t4 : decide ((PB : Int) < 0) = false := decide_eq_false (by omega)
    have t5 : decide (nP ≤ PB) = false := decide_eq_false (by omega)
    go_upto_region 11 with fail
    refine wp_at fun wq hWq => ?_
    have hXb : Blk 53 wq wr0.heap.size [.int .i64 (PA : Int), .int .i64 ea, .int .i64 (PB : Int), .int .i64 eb, .bool rv, .int .i64 es] := by rw [hWq]; exact Blk.new' rfl
    have hxq : Ext wr0 wq := by rw [hWq]; exact (Ext.refl _).alloc _
    obtain ⟨xb, hxb⟩ : ∃ xb, xb = wr0.heap.size := ⟨_, rfl⟩
    rw [← hxb] at hXb ⊢
    have HXB := Lib.hid hXb; have HXq := Lib.hid hxq
    clear hWq hXb hxb hkl0 hwl k0 k1 k2 k3 k4 k5 c0 c1 c2 c3 c4 c5 c6
    have HBq := Lib.hid (HB2.out.ext (HX.out.trans HXq.out))
    obtain ⟨c0, c1, c2, c3, c4, c5, c6⟩ := blk7 HBq.out
    obtain ⟨x0, x1, x2, x3, x4, x5⟩ := blk6 HXB.out
    have a0' := HXq.out.cell a0; have a1' := HXq.out.cell a1; have a2' := HXq.out.cell a2; have a3' := HXq.out.cell a3; have a4' := HXq.out.cell a4; have a5' := HXq.out.cell a5; have a6' := HXq.out.cell a6
    have b0' := HXq.out.cell b0; have b1' := HXq.out.cell b1; have b2' := HXq.out.cell b2; have b3' := HXq.out.cell b3; have b4' := HXq.out.cell b4; have b5' := HXq.out.cell b5; have b6' := HXq.out.cell b6
    have m0' := HXq.out.cell m0
    clear a0 a1 a2 a3 a4 a5 a6 b0 b1 b2 b3 b4 b5 b6 m0
    go_upto_region 13 with fail
    go_cut [10, 11] from 84 to 95 (fun pa pb wc => ∃ ab bb, pa = .pointer (some ⟨ab, 0, none⟩) ∧ pb = .pointer (some ⟨bb, 0, none⟩) ∧ Blk 27 wc ab [.string nmA, .slice AEA nEA cEA, .int .i64 grA, .slice ANA nNA cNA, .slice ACA nCA cCA, .slice AWA nWA cWA, .bool mtA] ∧ Blk 27 wc bb [.string nmB, .slice AEB nEB cEB, .int .i64 grB, .slice ANB nNB cNB, .slice ACB nCB cCB, .slice AWB nWB cWB, .bool mtB] ∧ Ext wq wc)
    case first =>
      have keep : ∀ W1 : World, Ext wq W1 → (Ext wq W1 ∧ W1.cell? ⟨w.heap.size, 3, none⟩ = some (.slice (some ⟨bpA, opA, none⟩) nP cP) ∧ W1.cell? ⟨xb, 0, none⟩ = some (.int .i64 (PA : Int)) ∧ W1.cell? ⟨xb, 2, none⟩ = some (.int .i64 (PB : Int)) ∧ W1.cell? ⟨bpA, opA + PA * 7, none⟩ = some (.string nmA) ∧ W1.cell? ⟨bpA, opA + PA * 7 + 1, none⟩ = some (.slice AEA nEA cEA) ∧ W1.cell? ⟨bpA, opA + PA * 7 + 2, none⟩ = some (.int .i64 grA) ∧ W1.cell? ⟨bpA, opA + PA * 7 + 3, none⟩ = some (.slice ANA nNA cNA) ∧ W1.cell? ⟨bpA, opA + PA * 7 + 4, none⟩ = some (.slice ACA nCA cCA) ∧ W1.cell? ⟨bpA, opA + PA * 7 + 5, none⟩ = some (.slice AWA nWA cWA) ∧ W1.cell? ⟨bpA, opA + PA * 7 + 6, none⟩ = some (.bool mtA) ∧ W1.cell? ⟨bpA, opA + PB * 7, none⟩ = some (.string nmB) ∧ W1.cell? ⟨bpA, opA + PB * 7 + 1, none⟩ = some (.slice AEB nEB cEB) ∧ W1.cell? ⟨bpA, opA + PB * 7 + 2, none⟩ = some (.int .i64 grB) ∧ W1.cell? ⟨bpA, opA + PB * 7 + 3, none⟩ = some (.slice ANB nNB cNB) ∧ W1.cell? ⟨bpA, opA + PB * 7 + 4, none⟩ = some (.slice ACB nCB cCB) ∧ W1.cell? ⟨bpA, opA + PB * 7 + 5, none⟩ = some (.slice AWB nWB cWB) ∧ W1.cell? ⟨bpA, opA + PB * 7 + 6, none⟩ = some (.bool mtB)) := fun W1 hx => ⟨hx, hx.cell c3, hx.cell x0, hx.cell x2, hx.cell a0', hx.cell a1', hx.cell a2', hx.cell a3', hx.cell a4', hx.cell a5', hx.cell a6', hx.cell b0', hx.cell b1', hx.cell b2', hx.cell b3', hx.cell b4', hx.cell b5', hx.cell b6'⟩
      have KEEP := Lib.hid keep; clear keep c0 c1 c2 c3 c4 c5 c6 x0 x1 x2 x3 x4 x5 a0' a1' a2' a3' a4' a5' a6' b0' b1' b2' b3' b4' b5' b6' m0'
      go_region_held3 (fun W => Ext wq W ∧ W.cell? ⟨w.heap.size, 3, none⟩ = some (.slice (some ⟨bpA, opA, none⟩) nP cP) ∧ W.cell? ⟨xb, 0, none⟩ = some (.int .i64 (PA : Int)) ∧ W.cell? ⟨xb, 2, none⟩ = some (.int .i64 (PB : Int)) ∧ W.cell? ⟨bpA, opA + PA * 7, none⟩ = some (.string nmA) ∧ W.cell? ⟨bpA, opA + PA * 7 + 1, none⟩ = some (.slice AEA nEA cEA) ∧ W.cell? ⟨bpA, opA + PA * 7 + 2, none⟩ = some (.int .i64 grA) ∧ W.cell? ⟨bpA, opA + PA * 7 + 3, none⟩ = some (.slice ANA nNA cNA) ∧ W.cell? ⟨bpA, opA + PA * 7 + 4, none⟩ = some (.slice ACA nCA cCA) ∧ W.cell? ⟨bpA, opA + PA * 7 + 5, none⟩ = some (.slice AWA nWA cWA) ∧ W.cell? ⟨bpA, opA + PA * 7 + 6, none⟩ = some (.bool mtA) ∧ W.cell? ⟨bpA, opA + PB * 7, none⟩ = some (.string nmB) ∧ W.cell? ⟨bpA, opA + PB * 7 + 1, none⟩ = some (.slice AEB nEB cEB) ∧ W.cell? ⟨bpA, opA + PB * 7 + 2, none⟩ = some (.int .i64 grB) ∧ W.cell? ⟨bpA, opA + PB * 7 + 3, none⟩ = some (.slice ANB nNB cNB) ∧ W.cell? ⟨bpA, opA + PB * 7 + 4, none⟩ = some (.slice ACB nCB cCB) ∧ W.cell? ⟨bpA, opA + PB * 7 + 5, none⟩ = some (.slice AWB nWB cWB) ∧ W.cell? ⟨bpA, opA + PB * 7 + 6, none⟩ = some (.bool mtB))
        (first | (with_reducible assumption) | (with_reducible exact KEEP.out _ (Ext.drew (Ext.refl _))) | (with_reducible exact KEEP.out _ (Ext.drew (Ext.alloc (Ext.refl _) _))) | (with_reducible exact KEEP.out _ (Ext.drew (Ext.alloc (Ext.alloc (Ext.refl _) _) _))) | fail)
        (first | fail)
      all_goals
        go_wp2_with fail
        go_meet
      all_goals
        refine ⟨_, _, rfl, rfl, ?_, ?_, ?_⟩
        · first
            | exact ((Blk.new' rfl).ext ((Ext.refl _).alloc _)).ext ((Ext.refl _).drew)
            | exact (Blk.new' (by simp)).ext ((Ext.refl _).drew)
            | fail
        · first
            | exact ((Blk.new' rfl).ext ((Ext.refl _).alloc _)).ext ((Ext.refl _).drew)
            | exact (Blk.new' (by simp)).ext ((Ext.refl _).drew)
            | fail
        · exact (((Ext.refl _).alloc _).alloc _).drew
    case rest =>
      obtain ⟨ab, bb, hpa, hpb, hBa, hBb, hxc⟩ := hcut
      subst hpa hpb
      obtain ⟨wz, rfl⟩ : ∃ wz : World, wz = wc := ⟨_, rfl⟩
      have HPAz := Lib.hid hBa; have HPBz := Lib.hid hBb; have HXz := Lib.hid (HXq.out.trans hxc)
      have HBz := Lib.hid (HBq.out.ext hxc); have HXBz := Lib.hid (HXB.out.ext hxc)
      have m1' := hxc.cell m0'
      clear c0 c1 c2 c3 c4 c5 c6 x0 x1 x2 x3 x4 x5 a0' a1' a2' a3' a4' a5' a6' b0' b1' b2' b3' b4' b5' b6' m0' hBa hBb hxc
      obtain ⟨c0, c1, c2, c3, c4, c5, c6⟩ := blk7 HBz.out
      go_wp2_with fail
      refine (H3.out k _ ((HX2.out.trans HX.out).trans HXz.out)).mono ?_
      rintro e w3 ⟨rfl, he3⟩
      rw [HLEN.out]
      simp only [LenV]
      have HX3 := Lib.hid (HXz.out.trans he3); have HB3 := Lib.hid (HBz.out.ext he3); have HXB3 := Lib.hid (HXBz.out.ext he3); have HPA3 := Lib.hid (HPAz.out.ext he3); have HPB3 := Lib.hid (HPBz.out.ext he3)
      have m2' := he3.cell m1'
      clear c0 c1 c2 c3 c4 c5 c6 m1' he3
      have hZ1 : (Z : Int) < nM := by omega
      have hZ0 : (0 : Int) ≤ (Z : Int) := by omega
      go_upto_region 15 with fail
      obtain ⟨c0, c1, c2, c3, c4, c5, c6⟩ := blk7 HB3.out
      obtain ⟨y0, y1, y2, y3, y4, y5, y6⟩ := blk7 HPA3.out
      have HPC : Hid (∀ W, Ext w3 W → Calls Try.prog 11 #[.agg #[.string nmA, .slice AEA nEA cEA, .int .i64 grA, .slice ANA nNA cNA, .slice ACA nCA cCA, .slice AWA nWA cWA, .bool mtA], .int .i64 M] W fun e w' => ∃ A1 c1, e = .returned (.tuple #[.slice A1 nNA c1, .int .i64 0]) ∧ IntsAt w' A1 (plL P M) ∧ Ext W w') := fun W h => (HPA.out W (HX3.out.trans h)).mono fun e w' ⟨A1, n1, c1, h1, h2, h3⟩ => by
        rw [HPZ.out] at h1 h2
        obtain ⟨h4, h5⟩ := h2 rfl
        rw [HLNA.out] at h5
        subst h5
        exact ⟨A1, c1, h1, (OwnI.plain h4).2.1, h3⟩
      go_cut [15, 16] from 105 to 113 (fun va ev wc => ∃ A1 c1, va = .slice A1 nNA c1 ∧ ev = .int .i64 0 ∧ IntsAt wc A1 (plL P M) ∧ Ext w3 wc)
      case first =>
        have keep : ∀ W1 : World, Ext w3 W1 → (Ext w3 W1 ∧ W1.cell? ⟨w.heap.size, 2, none⟩ = some (.slice (some ⟨bm, om, none⟩) nM cM) ∧ W1.cell? ⟨bm, om + Z, none⟩ = some (.int .i64 M) ∧ W1.cell? ⟨ab, 0, none⟩ = some (.string nmA) ∧ W1.cell? ⟨ab, 1, none⟩ = some (.slice AEA nEA cEA) ∧ W1.cell? ⟨ab, 2, none⟩ = some (.int .i64 grA) ∧ W1.cell? ⟨ab, 3, none⟩ = some (.slice ANA nNA cNA) ∧ W1.cell? ⟨ab, 4, none⟩ = some (.slice ACA nCA cCA) ∧ W1.cell? ⟨ab, 5, none⟩ = some (.slice AWA nWA cWA) ∧ W1.cell? ⟨ab, 6, none⟩ = some (.bool mtA)) := fun W1 hx => ⟨hx, hx.cell c2, hx.cell m2', hx.cell y0, hx.cell y1, hx.cell y2, hx.cell y3, hx.cell y4, hx.cell y5, hx.cell y6⟩
        have KEEP := Lib.hid keep; clear keep c0 c1 c2 c3 c4 c5 c6 y0 y1 y2 y3 y4 y5 y6 m2'
        go_region_held3 (fun W => Ext w3 W ∧ W.cell? ⟨w.heap.size, 2, none⟩ = some (.slice (some ⟨bm, om, none⟩) nM cM) ∧ W.cell? ⟨bm, om + Z, none⟩ = some (.int .i64 M) ∧ W.cell? ⟨ab, 0, none⟩ = some (.string nmA) ∧ W.cell? ⟨ab, 1, none⟩ = some (.slice AEA nEA cEA) ∧ W.cell? ⟨ab, 2, none⟩ = some (.int .i64 grA) ∧ W.cell? ⟨ab, 3, none⟩ = some (.slice ANA nNA cNA) ∧ W.cell? ⟨ab, 4, none⟩ = some (.slice ACA nCA cCA) ∧ W.cell? ⟨ab, 5, none⟩ = some (.slice AWA nWA cWA) ∧ W.cell? ⟨ab, 6, none⟩ = some (.bool mtA))
          (first | (with_reducible assumption) | (with_reducible exact KEEP.out _ (Ext.drew (Ext.refl _))) | (with_reducible exact KEEP.out _ hx2) | fail)
          (first
            | (go_at_call 11; (with_reducible refine (HPC.out w3.drew (Ext.drew (Ext.refl _))).mono ?_); rintro e w2' ⟨A1, c1, rfl, hOI, he2⟩; have hx2 : Ext w3 w2' := (Ext.drew (Ext.refl _)).trans he2; have HOI := Lib.hid hOI; clear hOI)
            | fail)
        all_goals
          go_wp2_with fail
          go_meet
        all_goals exact ⟨A1, c1, rfl, rfl, HOI.out, hx2⟩
      case rest =>
      obtain ⟨A1, cA1, hva, hev, hIA, hxc⟩ := hcut
      subst hva hev
      obtain ⟨w4, rfl⟩ : ∃ w4 : World, w4 = wc := ⟨_, rfl⟩
      have HX4 := Lib.hid (HX3.out.trans hxc); have HB4 := Lib.hid (HB3.out.ext hxc); have HXB4 := Lib.hid (HXB3.out.ext hxc); have HPA4 := Lib.hid (HPA3.out.ext hxc); have HPB4 := Lib.hid (HPB3.out.ext hxc); have HIA4 := Lib.hid hIA
      have m3' := hxc.cell m2'
      clear c0 c1 c2 c3 c4 c5 c6 y0 y1 y2 y3 y4 y5 y6 m2' hxc hIA HPC
      go_upto_region 16 with fail
      obtain ⟨c0, c1, c2, c3, c4, c5, c6⟩ := blk7 HB4.out
      obtain ⟨y0, y1, y2, y3, y4, y5, y6⟩ := blk7 HPB4.out
      have HPC : Hid (∀ W, Ext w4 W → Calls Try.prog 11 #[.agg #[.string nmB, .slice AEB nEB cEB, .int .i64 grB, .slice ANB nNB cNB, .slice ACB nCB cCB, .slice AWB nWB cWB, .bool mtB], .int .i64 M] W fun e w' => ∃ A1 c1, e = .returned (.tuple #[.slice A1 nNB c1, .int .i64 0]) ∧ IntsAt w' A1 (plL Q M) ∧ Ext W w') := fun W h => (HPB.out W (HX4.out.trans h)).mono fun e w' ⟨A1, n1, c1, h1, h2, h3⟩ => by
        rw [HQZ.out] at h1 h2
        obtain ⟨h4, h5⟩ := h2 rfl
        rw [HLNB.out] at h5
        subst h5
        exact ⟨A1, c1, h1, (OwnI.plain h4).2.1, h3⟩
      go_cut [17, 18] from 115 to 123 (fun va ev wc => ∃ A1 c1, va = .slice A1 nNB c1 ∧ ev = .int .i64 0 ∧ IntsAt wc A1 (plL Q M) ∧ Ext w4 wc)
      case first =>
        have keep : ∀ W1 : World, Ext w4 W1 → (Ext w4 W1 ∧ W1.cell? ⟨w.heap.size, 2, none⟩ = some (.slice (some ⟨bm, om, none⟩) nM cM) ∧ W1.cell? ⟨bm, om + Z, none⟩ = some (.int .i64 M) ∧ W1.cell? ⟨bb, 0, none⟩ = some (.string nmB) ∧ W1.cell? ⟨bb, 1, none⟩ = some (.slice AEB nEB cEB) ∧ W1.cell? ⟨bb, 2, none⟩ = some (.int .i64 grB) ∧ W1.cell? ⟨bb, 3, none⟩ = some (.slice ANB nNB cNB) ∧ W1.cell? ⟨bb, 4, none⟩ = some (.slice ACB nCB cCB) ∧ W1.cell? ⟨bb, 5, none⟩ = some (.slice AWB nWB cWB) ∧ W1.cell? ⟨bb, 6, none⟩ = some (.bool mtB)) := fun W1 hx => ⟨hx, hx.cell c2, hx.cell m3', hx.cell y0, hx.cell y1, hx.cell y2, hx.cell y3, hx.cell y4, hx.cell y5, hx.cell y6⟩
        have KEEP := Lib.hid keep; clear keep c0 c1 c2 c3 c4 c5 c6 y0 y1 y2 y3 y4 y5 y6 m3'
        go_region_held3 (fun W => Ext w4 W ∧ W.cell? ⟨w.heap.size, 2, none⟩ = some (.slice (some ⟨bm, om, none⟩) nM cM) ∧ W.cell? ⟨bm, om + Z, none⟩ = some (.int .i64 M) ∧ W.cell? ⟨bb, 0, none⟩ = some (.string nmB) ∧ W.cell? ⟨bb, 1, none⟩ = some (.slice AEB nEB cEB) ∧ W.cell? ⟨bb, 2, none⟩ = some (.int .i64 grB) ∧ W.cell? ⟨bb, 3, none⟩ = some (.slice ANB nNB cNB) ∧ W.cell? ⟨bb, 4, none⟩ = some (.slice ACB nCB cCB) ∧ W.cell? ⟨bb, 5, none⟩ = some (.slice AWB nWB cWB) ∧ W.cell? ⟨bb, 6, none⟩ = some (.bool mtB))
          (first | (with_reducible assumption) | (with_reducible exact KEEP.out _ (Ext.drew (Ext.refl _))) | (with_reducible exact KEEP.out _ hx2) | fail)
          (first
            | (go_at_call 11; (with_reducible refine (HPC.out w4.drew (Ext.drew (Ext.refl _))).mono ?_); rintro e w2' ⟨A1, c1, rfl, hOI, he2⟩; have hx2 : Ext w4 w2' := (Ext.drew (Ext.refl _)).trans he2; have HOI := Lib.hid hOI; clear hOI)
            | fail)
        all_goals
          go_wp2_with fail
          go_meet
        all_goals exact ⟨A1, c1, rfl, rfl, HOI.out, hx2⟩
      case rest =>
      obtain ⟨A2, cA2, hva, hev, hIB, hxc⟩ := hcut
      subst hva hev
      obtain ⟨w5, rfl⟩ : ∃ w5 : World, w5 = wc := ⟨_, rfl⟩
      have HX5 := Lib.hid (HX4.out.trans hxc); have HXB5 := Lib.hid (HXB4.out.ext hxc); have HPA5 := Lib.hid (HPA4.out.ext hxc); have HPB5 := Lib.hid (HPB4.out.ext hxc); have HIA5 := Lib.hid (HIA4.out.ext hxc); have HIB5 := Lib.hid hIB
      clear c0 c1 c2 c3 c4 c5 c6 y0 y1 y2 y3 y4 y5 y6 m3' hxc hIB HPC
      obtain ⟨y0, y1, y2, y3, y4, y5, y6⟩ := blk7 HPA5.out
      obtain ⟨z0, z1, z2, z3, z4, z5, z6⟩ := blk7 HPB5.out
      obtain ⟨x0, x1, x2, x3, x4, x5⟩ := blk6 HXB5.out
      have s1 : ((nNA : Int) != nNA) = false := by simp
      have s2 : ((nNB : Int) != nNB) = false := by simp
      go_wp2_with fail
      refine (HL1.out _ HX5.out A1 cA1 A2 cA2 HIA5.out HIB5.out).mono ?_
      rintro e w6 ⟨rfl, he6⟩
      have HX6 := Lib.hid (HX5.out.trans he6); have HXB6 := Lib.hid (HXB5.out.ext he6); have HPA6 := Lib.hid (HPA5.out.ext he6); have HPB6 := Lib.hid (HPB5.out.ext he6); have HIA6 := Lib.hid (HIA5.out.ext he6); have HIB6 := Lib.hid (HIB5.out.ext he6)
      clear x0 x1 x2 x3 x4 x5 y0 y1 y2 y3 y4 y5 y6 z0 z1 z2 z3 z4 z5 z6 he6
      obtain ⟨y0, y1, y2, y3, y4, y5, y6⟩ := blk7 HPA6.out
      obtain ⟨z0, z1, z2, z3, z4, z5, z6⟩ := blk7 HPB6.out
      obtain ⟨x0, x1, x2, x3, x4, x5⟩ := blk6 HXB6.out
      go_wp2_with fail
      refine (HL2.out _ HX6.out A1 cA1 A2 cA2 HIA6.out HIB6.out).mono ?_
      rintro e w7 ⟨rfl, he7⟩
      have HX7 := Lib.hid (HX6.out.trans he7)
      clear x0 x1 x2 x3 x4 x5 y0 y1 y2 y3 y4 y5 y6 z0 z1 z2 z3 z4 z5 z6 he7
      go_wp2_with fail
      go_roundw
      case rel => exact ⟨k + 1, by omega, by go_num, by rw [HSU.out]; go_num, HX.out.trans HX7.out⟩
      case measure => simp [intOf]; omega
end Go.Proofs.Ytliijigdbpmpaaa
