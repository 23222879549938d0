/- notch.Unmatched -/
import Derived.Deep.CutRange
import Derived.Deep.RegionHeld3
import Derived.Deep.AppendLies
import Derived.Test.YtfegbaokcbjllaaGreatKNotU
import Derived.Test.YtfegbaokcbjllaaGreatKPlaced
/- seam.isSize, isEdge, length, Lengths -/
namespace Go.Proofs.YtfegbaokcbjllaaGreat
open Go.RowKit
set_option maxRecDepth 100000 in
theorem isSize_any (a : StyA) (s : Sty) (z : Int) (w : World) (hs : StyAt w a s) :
  Calls Tryz.prog 45 #[a.val, .int .i64 z] w fun e w' => e = .returned (.bool (sizeB s z)) ∧ Ext w w' := by
 obtain ⟨nm, AS, nS, cS, AM, nM, cM, AP, nP, cP, AU, nU, cU, AK, nK, cK, AO, nO, cO⟩ := a
 have HL : Hid (s.ms.length = nM) := hs.lM
 clear hs
 simp only [StyA.val]
 by_cases h0 : 0 ≤ z
 ·by_cases h1 : z < nM
  ·go_enter Tryz.func45, Tryz.ntmps45
   go_wp2_with fail
   go_ret
   exact ⟨ret_bool (by symm; unfold sizeB; rw [HL.out]; exact decide_eq_true (by omega)), (Ext.refl _).alloc _⟩
  ·go_enter Tryz.func45, Tryz.ntmps45
   go_wp2_with fail
   go_ret
   exact ⟨ret_bool (by symm; unfold sizeB; rw [HL.out]; exact decide_eq_false (by omega)), (Ext.refl _).alloc _⟩
 ·go_enter Tryz.func45, Tryz.ntmps45
  go_wp2_with fail
  go_ret
  exact ⟨ret_bool (by symm; unfold sizeB; rw [HL.out]; exact decide_eq_false (by omega)), (Ext.refl _).alloc _⟩
set_option maxRecDepth 100000 in
set_option maxHeartbeats 800000 in
theorem isEdge_any (a : StyA) (s : Sty) (p q : Int) (w : World) (hs : StyAt w a s) :
  Calls Tryz.prog 74 #[a.val, .int .i64 p, .int .i64 q] w fun e w' => e = .returned (.bool (edgeB s p q)) ∧ Ext w w' := by
 obtain ⟨nm, AS, nS, cS, AM, nM, cM, AP, nP, cP, AU, nU, cU, AK, nK, cK, AO, nO, cO⟩ := a
 have HL : Hid (s.ps.length = nP) := hs.lP
 have HP := Lib.hid hs.P
 clear hs
 simp only [StyA.val] at HP ⊢
 by_cases h0 : 0 ≤ p
 ·by_cases h1 : p < nP
  ·by_cases h2 : 0 ≤ q
   ·obtain ⟨k, rfl⟩ := Int.eq_ofNat_of_zero_le h0
    have hk : k < nP := by omega
    obtain ⟨b, off, pa, hA, hpc, hcc⟩ := (HP.out.ext ((Ext.refl w).alloc (.cells #[.string nm, .slice AS nS cS, .slice AM nM cM, .slice AP nP cP, .slice AU nU cU, .slice AK nK cK, .slice AO nO cO] 29))) k (by rw [HL.out]; exact hk)
    subst hA
    have c1 := hcc.c1
    obtain ⟨nE, hnE⟩ : ∃ n, n = pa.nE := ⟨_, rfl⟩
    rw [← hnE] at c1
    have HE : Hid ((gPc s.ps k).es.length = nE) := by show _ = _; rw [hnE]; exact hpc.le
    clear hpc hcc hnE
    by_cases h3 : q < nE
    ·go_enter Tryz.func74, Tryz.ntmps74
     go_wp2_with fail
     go_ret
     exact ⟨ret_bool (by symm; unfold edgeB; rw [HL.out, Int.toNat_natCast, HE.out]; exact decide_eq_true (by omega)), (Ext.refl _).alloc _⟩
    ·go_enter Tryz.func74, Tryz.ntmps74
     go_wp2_with fail
     go_ret
     exact ⟨ret_bool (by symm; unfold edgeB; rw [HL.out, Int.toNat_natCast, HE.out]; exact decide_eq_false (by omega)), (Ext.refl _).alloc _⟩
   ·go_enter Tryz.func74, Tryz.ntmps74
    go_wp2_with fail
    go_ret
    exact ⟨ret_bool (by symm; unfold edgeB; rw [HL.out]; exact decide_eq_false (by omega)), (Ext.refl _).alloc _⟩
  ·go_enter Tryz.func74, Tryz.ntmps74
   go_wp2_with fail
   go_ret
   exact ⟨ret_bool (by symm; unfold edgeB; rw [HL.out]; exact decide_eq_false (by omega)), (Ext.refl _).alloc _⟩
 ·go_enter Tryz.func74, Tryz.ntmps74
  go_wp2_with fail
  go_ret
  exact ⟨ret_bool (by symm; unfold edgeB; rw [HL.out]; exact decide_eq_false (by omega)), (Ext.refl _).alloc _⟩
set_option maxRecDepth 100000 in
set_option maxHeartbeats 800000 in
theorem slength_any (a : PcA) (p : Pc) (m : Int) (k : Nat) (w : World) (hp : PcAt w a p) (hk : k < p.es.length) :
  Calls Tryz.prog 75 #[a.val, .int .i64 m, .int .i64 (k : Int)] w fun e w' => e = .returned (.tuple #[.int .i64 (lnN p m k : Int), .int .i64 (gradedR p.es p.cs m)]) ∧ Ext w w' := by
 obtain ⟨nm, AE, nE, cE, gr, AN, nN, cN, AC, nC, cC, AW, nW, cW, mt⟩ := a
 obtain ⟨es, cs, ws, ns⟩ := p
 have HP := Lib.hid hp; clear hp
 simp only at hk
 have HLE : Hid (es.length = nE) := HP.out.le
 have HK := Lib.hid hk
 rw [HLE.out] at hk
 simp only [PcA.val]
 go_enter Tryz.func75, Tryz.ntmps75
 go_wp2_with fail
 refine (graded_any nm AE AN AC AW nE cE nN cN nC cC nW cW gr m mt es cs _ (HP.out.e.ext ((Ext.refl _).alloc _)) HP.out.le HP.out.ce HP.out.ce' (HP.out.c.ext ((Ext.refl _).alloc _)) HP.out.lc HP.out.nc).mono ?_
 rintro e w1 ⟨v1, rfl, hv, hv', he⟩
 have HX1 := Lib.hid (((Ext.refl w).alloc _).trans he); clear he
 have HLN : Hid (lnN ⟨es, cs, ws, ns⟩ m k = if gradedR es cs m ≠ 0 then 0 else lengthN (gE (gradedE es cs m) k).2) := rfl
 by_cases hz : gradedR es cs m = 0
 ·have hO := hv hz
  have HLC := Lib.hid (graded_lines hz HK.out)
  obtain ⟨A1, c1, hvf, hE1, _, _⟩ := OwnE.slice' (n := nE) hO (by rw [gradedE_len]; exact HLE.out)
  subst hvf
  obtain ⟨b, off, L, cL, hA1, d0, d1, hS, _, _⟩ := hE1.g (k := k) (by rw [gradedE_len]; exact HK.out)
  subst hA1
  obtain ⟨l, hl⟩ : ∃ l, l = (gE (gradedE es cs m) k).2 := ⟨_, rfl⟩
  rw [← hl] at d1 hS HLN HLC
  rw [hz] at HLN ⊢
  have HZ := Lib.hid hz; have HSp := Lib.hid hS; clear hv hv' hz hO hE1 hS hl d0
  obtain ⟨n, hn⟩ : ∃ n, n = l.length := ⟨_, rfl⟩
  rw [← hn] at d1
  have HN := Lib.hid hn; clear hn
  go_wp2_with fail
  refine (length_any L n cL l _ HSp.out HN.out.symm).mono ?_
  rintro e w2 ⟨rfl, he2⟩
  rw [HLC.out]
  go_wp2_with fail
  go_ret2
  exact ⟨by rw [HLN.out, if_neg (by decide), HZ.out]; rfl, HX1.out.trans he2⟩
 ·have hvf := hv' hz
  subst hvf
  have hzb : (gradedR es cs m != 0) = true := by simp [hz]
  obtain ⟨x, hx⟩ : ∃ x, x = gradedR es cs m := ⟨_, rfl⟩
  rw [← hx] at hz hzb HLN ⊢
  have HZ := Lib.hid hz; have HGX := Lib.hid hx; clear hv hv' hz hx
  go_wp2_with fail
  go_ret2
  exact ⟨by rw [HLN.out, if_pos HZ.out, ← HGX.out]; rfl, HX1.out⟩
def RetLn (w : World) (s : Sty) (z k : Int) (e : Ending) (w' : World) : Prop := e = .returned (LenV (lensV s z k)) ∧ Ext w w'
theorem slength_int (a : PcA) (p : Pc) (m k : Int) (w : World) (hp : PcAt w a p) (h0 : 0 ≤ k) (hk : k < p.es.length) :
  Calls Tryz.prog 75 #[a.val, .int .i64 m, .int .i64 k] w fun e w' => e = .returned (.tuple #[.int .i64 (lnN p m k.toNat : Int), .int .i64 (gradedR p.es p.cs m)]) ∧ Ext w w' := by
 obtain ⟨j, rfl⟩ := Int.eq_ofNat_of_zero_le h0
 exact slength_any a p m j w hp (by omega)
set_option maxRecDepth 100000 in
set_option maxHeartbeats 3200000 in
theorem lengths_any (a : StyA) (s : Sty) (z k : Int) (w : World) (hs : StyAt w a s) :
  Calls Tryz.prog 46 #[a.val, .int .i64 z, .int .i64 k] w (RetLn w s z k) := by
 have HS := Lib.hid hs; clear hs
 have HC := Lib.hid (fun W (h : Ext w W) => isSize_any a s z W (HS.out.ext h))
 have HD := Lib.hid (fun p q W (h : Ext w W) => isEdge_any a s p q W (HS.out.ext h))
 obtain ⟨nm, AS, nS, cS, AM, nM, cM, AP, nP, cP, AU, nU, cU, AK, nK, cK, AO, nO, cO⟩ := a
 have HLM : Hid (s.ms.length = nM) := HS.out.lM
 have HLP : Hid (s.ps.length = nP) := HS.out.lP
 have HLK : Hid (s.ss.length = nK) := HS.out.lK
 have hbM : nM ≤ 9223372036854775807 := HS.out.bM
 have hbP : nP ≤ 9223372036854775807 := HS.out.bP
 have hbK : nK ≤ 9223372036854775807 := HS.out.bK
 simp only [StyA.val] at HC HD ⊢
 go_enter Tryz.func46, Tryz.ntmps46
 go_wp2_with fail
 refine (HC.out _ ((Ext.refl _).alloc _)).mono ?_
 rintro e w1 ⟨rfl, he1⟩
 have HB1 : Hid (Blk 29 w1 w.heap.size [.string nm, .slice AS nS cS, .slice AM nM cM, .slice AP nP cP, .slice AU nU cU, .slice AK nK cK, .slice AO nO cO]) := (Blk.new' rfl).ext he1
 have HX1 := Lib.hid (((Ext.refl w).alloc _).trans he1)
 clear he1
 cases hsz : sizeB s z
 ·have HR := Lib.hid (lens_1 (s := s) (z := z) (k := k) (fun h => by rw [hsz] at h; cases h.1))
  clear hsz
  go_wp2_with fail
  refine bodyPost_ret (v := .tuple #[.int .i64 0, .int .i64 0, .int .i64 3]) (by simp [results, Tryz.results46, go_sem]) rfl ?_
  exact ⟨by rw [HR.out]; rfl, HX1.out⟩
 by_cases hk0 : k < 0
 ·have HR := Lib.hid (lens_1 (s := s) (z := z) (k := k) (fun h => by omega))
  clear hsz
  go_wp2_with fail
  refine bodyPost_ret (v := .tuple #[.int .i64 0, .int .i64 0, .int .i64 3]) (by simp [results, Tryz.results46, go_sem]) rfl ?_
  exact ⟨by rw [HR.out]; rfl, HX1.out⟩
 obtain ⟨c0, c1, c2, c3, c4, c5, c6⟩ := blk7 HB1.out
 by_cases hk1 : (nK : Int) ≤ k
 ·have HR := Lib.hid (lens_1 (s := s) (z := z) (k := k) (fun h => by rw [HLK.out] at h; omega))
  clear hsz
  go_wp2_with fail
  refine bodyPost_ret (v := .tuple #[.int .i64 0, .int .i64 0, .int .i64 3]) (by simp [results, Tryz.results46, go_sem]) rfl ?_
  exact ⟨by rw [HR.out]; rfl, HX1.out⟩
 obtain ⟨K, rfl⟩ := Int.eq_ofNat_of_zero_le (show 0 ≤ k by omega)
 have hK : K < nK := by omega
 have HH1 : Hid (sizeB s z = true ∧ 0 ≤ (K : Int) ∧ (K : Int) < s.ss.length) := ⟨hsz, by omega, by rw [HLK.out]; omega⟩
 have hz2 : 0 ≤ z ∧ z < nM := by
  unfold sizeB at hsz
  have := of_decide_eq_true hsz
  rw [HLM.out] at this; exact this
 clear hsz hk0 hk1
 obtain ⟨Z, rfl⟩ := Int.eq_ofNat_of_zero_le hz2.1
 have hZ : Z < nM := by omega
 clear hz2
 obtain ⟨bk, ok, hAK, hsm⟩ := (HS.out.K.ext HX1.out) K (by rw [HLK.out]; exact hK)
 simp only at hAK
 subst hAK
 obtain ⟨sm, hsmd⟩ : ∃ sm, sm = gSm s.ss K := ⟨_, rfl⟩
 rw [← hsmd] at hsm
 have HSM := Lib.hid hsmd; clear hsmd
 obtain ⟨pa, ea, pb, eb, rv, es⟩ := sm
 obtain ⟨k0, k1, k2, k3, k4, k5⟩ := hsm
 simp only at k0 k1 k2 k3 k4 k5
 have hpl : w.heap.size < w1.heap.size := HB1.out.lt
 have hxl : Ext w1 (w1.alloc (.cells #[.int .i64 pa, .int .i64 ea, .int .i64 pb, .int .i64 eb, .bool rv, .int .i64 es] 71)) := (Ext.refl _).alloc _
 have HXL := Lib.hid hxl; clear hxl
 go_wp2_with fail
 refine (HD.out pa ea _ (HX1.out.trans HXL.out)).mono ?_
 rintro e w2 ⟨rfl, he2⟩
 have HSB : Hid (Blk 71 w2 w1.heap.size [.int .i64 pa, .int .i64 ea, .int .i64 pb, .int .i64 eb, .bool rv, .int .i64 es]) := (Blk.new' rfl).ext he2
 have HB2 := Lib.hid ((HB1.out.ext HXL.out).ext he2)
 have HX2 := Lib.hid ((HX1.out.trans HXL.out).trans he2)
 clear he2 HXL c0 c1 c2 c3 c4 c5 c6 k0 k1 k2 k3 k4 k5 hpl
 have HSP : Hid ((gSm s.ss (K : Int).toNat).pa = pa ∧ (gSm s.ss (K : Int).toNat).ea = ea ∧ (gSm s.ss (K : Int).toNat).pb = pb ∧ (gSm s.ss (K : Int).toNat).eb = eb) := by
  show _ ∧ _
  rw [Int.toNat_natCast, ← HSM.out]; exact ⟨rfl, rfl, rfl, rfl⟩
 obtain ⟨c0, c1, c2, c3, c4, c5, c6⟩ := blk7 HB2.out
 obtain ⟨k0, k1, k2, k3, k4, k5⟩ := blk6 HSB.out
 cases hea : edgeB s pa ea
 ·have HR := Lib.hid (lens_2 HH1.out (fun h => by rw [HSP.out.1, HSP.out.2.1, hea] at h; cases h.1))
  clear hea
  go_wp2_with fail
  refine bodyPost_ret (v := .tuple #[.int .i64 0, .int .i64 0, .int .i64 3]) (by simp [results, Tryz.results46, go_sem]) rfl ?_
  exact ⟨by rw [HR.out]; rfl, HX2.out⟩
 have HEA := Lib.hid hea; clear hea
 go_wp2_with fail
 refine (HD.out pb eb _ HX2.out).mono ?_
 rintro e w3 ⟨rfl, he3⟩
 have HB3 := Lib.hid (HB2.out.ext he3); have HSB3 := Lib.hid (HSB.out.ext he3); have HX3 := Lib.hid (HX2.out.trans he3)
 clear he3 c0 c1 c2 c3 c4 c5 c6 k0 k1 k2 k3 k4 k5
 obtain ⟨c0, c1, c2, c3, c4, c5, c6⟩ := blk7 HB3.out
 obtain ⟨k0, k1, k2, k3, k4, k5⟩ := blk6 HSB3.out
 cases heb : edgeB s pb eb
 ·have HR := Lib.hid (lens_2 HH1.out (fun h => by rw [HSP.out.2.2.1, HSP.out.2.2.2, heb] at h; cases h.2))
  clear heb
  go_wp2_with fail
  refine bodyPost_ret (v := .tuple #[.int .i64 0, .int .i64 0, .int .i64 3]) (by simp [results, Tryz.results46, go_sem]) rfl ?_
  exact ⟨by rw [HR.out]; rfl, HX3.out⟩
 have HH2 : Hid (edgeB s (gSm s.ss (K : Int).toNat).pa (gSm s.ss (K : Int).toNat).ea = true ∧ edgeB s (gSm s.ss (K : Int).toNat).pb (gSm s.ss (K : Int).toNat).eb = true) := by
  show _ ∧ _
  rw [HSP.out.1, HSP.out.2.1, HSP.out.2.2.1, HSP.out.2.2.2]; exact ⟨HEA.out, heb⟩
 obtain ⟨qa0, qa1, qa2, qa3⟩ := edgeB_iff HEA.out
 obtain ⟨qb0, qb1, qb2, qb3⟩ := edgeB_iff heb
 clear heb HEA
 obtain ⟨PA, rfl⟩ := Int.eq_ofNat_of_zero_le qa0
 obtain ⟨PB, rfl⟩ := Int.eq_ofNat_of_zero_le qb0
 rw [HLP.out] at qa1 qb1
 rw [Int.toNat_natCast] at qa3 qb3
 have hPA : PA < nP := by omega
 have hPB : PB < nP := by omega
 obtain ⟨M, hM⟩ : ∃ M, M = gI s.ms Z := ⟨_, rfl⟩
 obtain ⟨RA, hRA⟩ : ∃ x, x = gradedR (gPc s.ps PA).es (gPc s.ps PA).cs M := ⟨_, rfl⟩
 obtain ⟨RB, hRB⟩ : ∃ x, x = gradedR (gPc s.ps PB).es (gPc s.ps PB).cs M := ⟨_, rfl⟩
 obtain ⟨LA, hLA⟩ : ∃ x, x = lnN (gPc s.ps PA) M ea.toNat := ⟨_, rfl⟩
 obtain ⟨LB, hLB⟩ : ∃ x, x = lnN (gPc s.ps PB) M eb.toNat := ⟨_, rfl⟩
 have HRA : Hid (gradedR (gPc s.ps (gSm s.ss (K : Int).toNat).pa.toNat).es (gPc s.ps (gSm s.ss (K : Int).toNat).pa.toNat).cs (gI s.ms (Z : Int).toNat) = RA) := by show _ = _; rw [HSP.out.1, Int.toNat_natCast, Int.toNat_natCast, hRA, hM]
 have HRB : Hid (gradedR (gPc s.ps (gSm s.ss (K : Int).toNat).pb.toNat).es (gPc s.ps (gSm s.ss (K : Int).toNat).pb.toNat).cs (gI s.ms (Z : Int).toNat) = RB) := by show _ = _; rw [HSP.out.2.2.1, Int.toNat_natCast, Int.toNat_natCast, hRB, hM]
 have HLA : Hid (lensA s Z K = LA) := by show _ = _; unfold lensA; rw [HSP.out.1, HSP.out.2.1, Int.toNat_natCast, Int.toNat_natCast, hLA, hM]
 have HLB : Hid (lensB s Z K = LB) := by show _ = _; unfold lensB; rw [HSP.out.2.2.1, HSP.out.2.2.2, Int.toNat_natCast, Int.toNat_natCast, hLB, hM]
 obtain ⟨bm, om, hAM, m0⟩ := (HS.out.M.ext HX3.out).g (k := Z) (by rw [HLM.out]; exact hZ)
 simp only at hAM
 subst hAM
 rw [← hM] at m0
 have HPS := Lib.hid HS.out.P
 simp only at HPS
 obtain ⟨bp, op, qa, hAP, hpA, hcA⟩ := (HPS.out.ext HX3.out) PA (by rw [HLP.out]; exact hPA)
 subst hAP
 have HCA : Hid (∀ W, Ext w3 W → Calls Tryz.prog 75 #[qa.val, .int .i64 M, .int .i64 ea] W fun e w' => e = .returned (.tuple #[.int .i64 (LA : Int), .int .i64 RA]) ∧ Ext W w') := fun W h => by
  rw [hLA, hRA]; exact slength_int qa (gPc s.ps PA) M ea W (hpA.ext h) qa2 qa3
 have HCB : Hid (∀ (qb : PcA) W, PcAt W qb (gPc s.ps PB) → Calls Tryz.prog 75 #[qb.val, .int .i64 M, .int .i64 eb] W fun e w' => e = .returned (.tuple #[.int .i64 (LB : Int), .int .i64 RB]) ∧ Ext W w') := fun qb W h => by
  rw [hLB, hRB]; exact slength_int qb (gPc s.ps PB) M eb W h qb2 qb3
 clear hpA hRA hRB hLA hLB hM
 obtain ⟨pnm, pAE, pnE, pcE, pgr, pAN, pnN, pcN, pAC, pnC, pcC, pAW, pnW, pcW, pmt⟩ := qa
 obtain ⟨a0, a1, a2, a3, a4, a5, a6⟩ := hcA
 simp only [PcA.val] at HCA a0 a1 a2 a3 a4 a5 a6
 have z0 := fun z : After w3 => After.cell c3 z
 have z1 := fun z : After w3 => After.cell c2 z
 have z2 := fun z : After w3 => After.cell k0 z
 have z3 := fun z : After w3 => After.cell k1 z
 have z4 := fun z : After w3 => After.cell m0 z
 have y0 := fun z : After w3 => After.cell a0 z
 have y1 := fun z : After w3 => After.cell a1 z
 have y2 := fun z : After w3 => After.cell a2 z
 have y3 := fun z : After w3 => After.cell a3 z
 have y4 := fun z : After w3 => After.cell a4 z
 have y5 := fun z : After w3 => After.cell a5 z
 have y6 := fun z : After w3 => After.cell a6 z
 clear qa0 qa1 qa2 qa3 qb0 qb1 qb2 qb3
 go_wp2_with fail
 refine region_ext (by kernel_rfl) (by kernel_rfl) ?_
 repeat (first | go_big_quiet_step ((go_at_call 75; exact after_call (HCA.out _ (After.ext _)))) | (go_big_quiet_want; go_simp; go_big_quiet_on))
 refine wpQuiet_nil ?_
 rintro w4 ⟨⟨_, he4⟩, rfl⟩
 clear z0 z1 z2 z3 z4 y0 y1 y2 y3 y4 y5 y6 a0 a1 a2 a3 a4 a5 a6 c0 c1 c2 c3 c4 c5 c6 k0 k1 k2 k3 k4 k5
 have HB4 := Lib.hid (HB3.out.ext he4); have HSB4 := Lib.hid (HSB3.out.ext he4); have HX4 := Lib.hid (HX3.out.trans he4); have m4 := he4.cell m0
 clear he4 m0 HCA
 obtain ⟨c0, c1, c2, c3, c4, c5, c6⟩ := blk7 HB4.out
 obtain ⟨k0, k1, k2, k3, k4, k5⟩ := blk6 HSB4.out
 by_cases hra : RA = 0
 rotate_left
 ·have HR := Lib.hid (lens_3 HH1.out HH2.out (by rw [HRA.out]; exact hra))
  rw [HRA.out] at HR
  have hrb : (RA != 0) = true := by simp [hra]
  clear hra
  go_wp2_with fail
  refine bodyPost_ret (v := .tuple #[.int .i64 0, .int .i64 0, .int .i64 RA]) (by simp [results, Tryz.results46, go_sem]) rfl ?_
  exact ⟨by rw [HR.out]; rfl, HX4.out⟩
 subst hra
 obtain ⟨bp', op', qb, hAP, hpB, hcB⟩ := (HPS.out.ext HX4.out) PB (by rw [HLP.out]; exact hPB)
 injection hAP with hAP
 injection hAP with e1 e2
 subst e1; subst e2
 have HCB' := Lib.hid (fun W (h : Ext w4 W) => HCB.out qb W (hpB.ext h))
 clear hpB HCB
 obtain ⟨pnm, pAE, pnE, pcE, pgr, pAN, pnN, pcN, pAC, pnC, pcC, pAW, pnW, pcW, pmt⟩ := qb
 obtain ⟨a0, a1, a2, a3, a4, a5, a6⟩ := hcB
 simp only [PcA.val] at HCB' a0 a1 a2 a3 a4 a5 a6
 have z0 := fun z : After w4 => After.cell c3 z
 have z1 := fun z : After w4 => After.cell c2 z
 have z2 := fun z : After w4 => After.cell k2 z
 have z3 := fun z : After w4 => After.cell k3 z
 have z4 := fun z : After w4 => After.cell m4 z
 have y0 := fun z : After w4 => After.cell a0 z
 have y1 := fun z : After w4 => After.cell a1 z
 have y2 := fun z : After w4 => After.cell a2 z
 have y3 := fun z : After w4 => After.cell a3 z
 have y4 := fun z : After w4 => After.cell a4 z
 have y5 := fun z : After w4 => After.cell a5 z
 have y6 := fun z : After w4 => After.cell a6 z
 go_wp2_with fail
 refine region_ext (by kernel_rfl) (by kernel_rfl) ?_
 repeat (first | go_big_quiet_step ((go_at_call 75; exact after_call (HCB'.out _ (After.ext _)))) | (go_big_quiet_want; go_simp; go_big_quiet_on))
 refine wpQuiet_nil ?_
 rintro w5 ⟨⟨_, he5⟩, rfl⟩
 clear z0 z1 z2 z3 z4 y0 y1 y2 y3 y4 y5 y6 a0 a1 a2 a3 a4 a5 a6 c0 c1 c2 c3 c4 c5 c6 k0 k1 k2 k3 k4 k5 m4
 have HX5 := Lib.hid (HX4.out.trans he5); clear he5 HCB'
 by_cases hrb : RB = 0
 rotate_left
 ·have HR := Lib.hid (lens_4 HH1.out HH2.out HRA.out (by rw [HRB.out]; exact hrb))
  rw [HRB.out] at HR
  have hrb' : (RB != 0) = true := by simp [hrb]
  clear hrb
  go_wp2_with fail
  refine bodyPost_ret (v := .tuple #[.int .i64 0, .int .i64 0, .int .i64 RB]) (by simp [results, Tryz.results46, go_sem]) rfl ?_
  exact ⟨by rw [HR.out]; rfl, HX5.out⟩
 subst hrb
 have HR := Lib.hid (lens_5 HH1.out HH2.out HRA.out HRB.out)
 rw [HLA.out, HLB.out] at HR
 go_wp2_with fail
 refine bodyPost_ret (v := .tuple #[.int .i64 (LA : Int), .int .i64 (LB : Int), .int .i64 0]) (by simp [results, Tryz.results46, go_sem]) rfl ?_
 exact ⟨by rw [HR.out]; rfl, HX5.out⟩
/- where a side lies -/
structure SdA where
 AN : Option Addr
 nN : Nat
 cN : Nat
 AP : Option Addr
 cP : Nat
abbrev SdV (a : SdA) (d : Sd) : Value := .agg #[.slice a.AN a.nN a.cN, .slice a.AP a.nN a.cP, .int .i64 d.edge, .int .i64 d.len]
structure SdAt (w : World) (a : SdA) (d : Sd) : Prop where
 n : SpotsAt w a.AN d.ns
 ln : d.ns.length = a.nN
 p : IntsAt w a.AP d.pl
 lp : d.pl.length = a.nN
 b : a.nN ≤ 16
 r : ∀ i, i < d.ns.length → 0 ≤ gI d.pl i ∧ gI d.pl i ≤ 1000000000000
theorem SdAt.ext {w w' : World} {a : SdA} {d : Sd} (h : SdAt w a d) (he : Ext w w') : SdAt w' a d := ⟨h.n.ext he, h.ln, h.p.ext he, h.lp, h.b, h.r⟩
theorem hasB_yes {ns : List Spot} {pl : List Int} {edge place : Int} {k : Nat} (hk : k < ns.length) (h : nearF ns pl edge place k = true) : hasB ns pl edge place = true :=
 List.any_eq_true.2 ⟨k, List.mem_range.2 hk, h⟩
theorem hasB_no {ns : List Spot} {pl : List Int} {edge place : Int} (h : ∀ k, k < ns.length → nearF ns pl edge place k = false) : hasB ns pl edge place = false := by
 unfold hasB
 rw [List.any_eq_false]
 intro k hk
 rw [h k (List.mem_range.1 hk)]; decide
set_option maxRecDepth 100000 in
set_option maxHeartbeats 1600000 in
theorem has_any (a : SdA) (d : Sd) (x : Int) (w : World) (hd : SdAt w a d) (hx0 : -1000000000000 ≤ x) (hx1 : x ≤ 1000000000000) :
  Calls Tryz.prog 78 #[SdV a d, .int .i64 x] w fun e w' => e = .returned (.bool (hasB d.ns d.pl d.edge x)) ∧ Ext w w' := by
 have HD := Lib.hid hd; clear hd
 obtain ⟨AN, nN, cN, AP, cP⟩ := a
 obtain ⟨ns, pl, edge, len⟩ := d
 have HN : Hid (SpotsAt w AN ns) := HD.out.n
 have HLN : Hid (ns.length = nN) := HD.out.ln
 have HP : Hid (IntsAt w AP pl) := HD.out.p
 have HLP : Hid (pl.length = nN) := HD.out.lp
 have hb : nN ≤ 16 := HD.out.b
 have HRR : Hid (∀ i, i < ns.length → 0 ≤ gI pl i ∧ gI pl i ≤ 1000000000000) := HD.out.r
 clear HD
 simp only [SdV]
 go_enter Tryz.func78, Tryz.ntmps78
 go_wp2_with fail
 refine wp_at fun W0 hW0 => ?_
 have hB : Blk 104 W0 w.heap.size [.slice AN nN cN, .slice AP nN cP, .int .i64 edge, .int .i64 len] := by rw [hW0]; exact Blk.new' rfl
 have hx0' : Ext w W0 := by rw [hW0]; exact (Ext.refl _).alloc _
 have HB := Lib.hid hB; have HX0 := Lib.hid hx0'; clear hW0 hB hx0'
 go_loopw [10] (fun i wr => ∃ k : Nat, k ≤ nN ∧ i = .int .i64 k ∧ (∀ j, j < k → nearF ns pl edge x j = false) ∧ Ext W0 wr) (fun i _ => nN - (intOf i).toNat)
 case atStart => exact ⟨0, Nat.zero_le _, rfl, fun j hj => absurd hj (Nat.not_lt_zero _), Ext.refl _⟩
 case round =>
  obtain ⟨k, hk, rfl, hall, hx⟩ := hrel
  have HALL := Lib.hid hall; have HX := Lib.hid hx; clear hall hx
  by_cases hlt : k < nN
  ·have hkl : k < ns.length := by rw [HLN.out]; exact hlt
   obtain ⟨bn, on, hAN, n0, n1⟩ := (HN.out.ext (HX0.out.trans HX.out)).g (k := k) hkl
   subst hAN
   obtain ⟨hr0, hr1⟩ := HRR.out k hkl
   obtain ⟨bp, op, hAP, p0⟩ := (HP.out.ext (HX0.out.trans HX.out)).g (k := k) (by rw [HLP.out]; exact hlt)
   subst hAP
   obtain ⟨PV, hPV⟩ : ∃ PV, PV = gI pl k := ⟨_, rfl⟩
   obtain ⟨ed, hed⟩ : ∃ ed, ed = (gS ns k).1 := ⟨_, rfl⟩
   rw [← hPV] at p0 hr0 hr1
   rw [← hed] at n0
   have HNF : Hid (nearF ns pl edge x k = decide (ed = edge ∧ gapN PV x ≤ 1000)) := by show _ = _; unfold nearF; rw [← hPV, ← hed]
   clear hPV hed
   have hnl := cell_lt n0
   have hpl := cell_lt p0
   go_upto_region 4 with fail
   refine wp_at fun W1 hW1 => ?_
   have hNb : Blk 79 W1 wr.heap.size [.int .i64 ed, .int .i64 (gS ns k).2] := by rw [hW1]; exact Blk.new' rfl
   have hx1' : Ext wr W1 := by rw [hW1]; exact (Ext.refl _).alloc _
   obtain ⟨m0, m1⟩ := blk2 hNb
   have p1 := hx1'.cell p0
   have HX1 := Lib.hid (HX.out.trans hx1')
   have HB1 := Lib.hid (HB.out.ext HX1.out)
   have b1 := HB1.out.cell 1
   have b2 := HB1.out.cell 2
   simp only [List.getElem?_cons_succ, List.getElem?_cons_zero] at b1 b2
   clear hW1 hNb hx1' n0 n1 p0 hnl hpl
   have z0 := fun z : After W1 => After.cell m0 z
   have z1 := fun z : After W1 => After.cell p1 z
   have z2 := fun z : After W1 => After.cell b1 z
   have z3 := fun z : After W1 => After.cell b2 z
   have wA : IntKind.i64.wrap (PV - x) = PV - x := IntWalk.i64_in _ (by omega)
   have wB : IntKind.i64.wrap (x - PV) = x - PV := IntWalk.i64_in _ (by omega)
   have hkk : (k : Int) < nN := by omega
   have hkk0 : (0 : Int) ≤ k := by omega
   by_cases he : ed = edge
   ·have heb : (ed == edge) = true := by simp [he]
    by_cases hg : PV - x < x - PV
    ·by_cases hn : x - PV ≤ 1000
     ·have HYES : Hid (nearF ns pl edge x k = true) := by show _ = _; rw [HNF.out]; exact decide_eq_true ⟨he, by unfold gapN; rw [if_pos hg]; exact hn⟩
      refine region_ext (by kernel_rfl) (by kernel_rfl) ?_
      repeat (first | go_big_quiet_step (fail) | (go_big_quiet_want; go_simp; go_big_quiet_on))
      refine wpQuiet_nil ?_
      rintro w3 ⟨⟨_, he3⟩, rfl⟩
      clear z0 z1 z2 z3 m0 m1 p1 b1 b2 heb
      go_wp2_with fail
      go_ret
      exact ⟨ret_bool (hasB_yes hkl HYES.out).symm, (HX0.out.trans HX1.out).trans he3⟩
     ·have HNOT : Hid (nearF ns pl edge x k = false) := by show _ = _; rw [HNF.out]; exact decide_eq_false (fun h => hn (by have := h.2; unfold gapN at this; rwa [if_pos hg] at this))
      refine region_ext (by kernel_rfl) (by kernel_rfl) ?_
      repeat (first | go_big_quiet_step (fail) | (go_big_quiet_want; go_simp; go_big_quiet_on))
      refine wpQuiet_nil ?_
      rintro w3 ⟨⟨_, he3⟩, rfl⟩
      clear z0 z1 z2 z3 m0 m1 p1 b1 b2 heb
      go_wp2_with fail
      go_roundw
      case rel => exact ⟨k + 1, by omega, by go_num, fun j hj => by
       rcases Nat.lt_succ_iff_lt_or_eq.1 hj with h | h
       ·exact HALL.out j h
       ·subst h; exact HNOT.out, HX1.out.trans he3⟩
      case measure => simp [intOf]; omega
    ·by_cases hn : PV - x ≤ 1000
     ·have HYES : Hid (nearF ns pl edge x k = true) := by show _ = _; rw [HNF.out]; exact decide_eq_true ⟨he, by unfold gapN; rw [if_neg hg]; exact hn⟩
      refine region_ext (by kernel_rfl) (by kernel_rfl) ?_
      repeat (first | go_big_quiet_step (fail) | (go_big_quiet_want; go_simp; go_big_quiet_on))
      refine wpQuiet_nil ?_
      rintro w3 ⟨⟨_, he3⟩, rfl⟩
      clear z0 z1 z2 z3 m0 m1 p1 b1 b2 heb
      go_wp2_with fail
      go_ret
      exact ⟨ret_bool (hasB_yes hkl HYES.out).symm, (HX0.out.trans HX1.out).trans he3⟩
     ·have HNOT : Hid (nearF ns pl edge x k = false) := by show _ = _; rw [HNF.out]; exact decide_eq_false (fun h => hn (by have := h.2; unfold gapN at this; rwa [if_neg hg] at this))
      refine region_ext (by kernel_rfl) (by kernel_rfl) ?_
      repeat (first | go_big_quiet_step (fail) | (go_big_quiet_want; go_simp; go_big_quiet_on))
      refine wpQuiet_nil ?_
      rintro w3 ⟨⟨_, he3⟩, rfl⟩
      clear z0 z1 z2 z3 m0 m1 p1 b1 b2 heb
      go_wp2_with fail
      go_roundw
      case rel => exact ⟨k + 1, by omega, by go_num, fun j hj => by
       rcases Nat.lt_succ_iff_lt_or_eq.1 hj with h | h
       ·exact HALL.out j h
       ·subst h; exact HNOT.out, HX1.out.trans he3⟩
      case measure => simp [intOf]; omega
   ·have heb : (ed == edge) = false := by simp [he]
    have HNOT : Hid (nearF ns pl edge x k = false) := by show _ = _; rw [HNF.out]; exact decide_eq_false (fun h => he h.1)
    refine region_ext (by kernel_rfl) (by kernel_rfl) ?_
    repeat (first | go_big_quiet_step (fail) | (go_big_quiet_want; go_simp; go_big_quiet_on))
    refine wpQuiet_nil ?_
    rintro w3 ⟨⟨_, he3⟩, rfl⟩
    clear z0 z1 z2 z3 m0 m1 p1 b1 b2 heb
    go_wp2_with fail
    go_roundw
    case rel => exact ⟨k + 1, by omega, by go_num, fun j hj => by
     rcases Nat.lt_succ_iff_lt_or_eq.1 hj with h | h
     ·exact HALL.out j h
     ·subst h; exact HNOT.out, HX1.out.trans he3⟩
    case measure => simp [intOf]; omega
  ·obtain rfl : k = nN := by omega
   go_wp2_with fail
   go_ret
   exact ⟨ret_bool (hasB_no (fun j hj => HALL.out j (by rw [HLN.out] at hj; exact hj))).symm, HX0.out.trans HX.out⟩
theorem partV_bd {f t a : Int} {r : Bool} (ht0 : 0 ≤ t) (ht : t ≤ 1000000000000) : 0 ≤ partV f t r a ∧ partV f t r a ≤ 1000000000000 := by
 unfold partV
 split
 ·rename_i h
  obtain ⟨h1, h2, h3, h4, h5, h6⟩ := prtB_iff.1 h
  have := part_le (a := a.toNat) (t := t.toNat) (f := f.toNat) (by omega) (by omega)
  unfold partN
  split <;> omega
 ·omega
def castL (l : List Nat) : List Int := l.map fun (i : Nat) => (i : Int)
theorem castL_append (a b : List Nat) : castL (a ++ b) = castL a ++ castL b := by simp [castL]
theorem castL_len (a : List Nat) : (castL a).length = a.length := by simp [castL]
def RetAln (w : World) (x y : Sd) (rev : Bool) (e : Ending) (w' : World) : Prop := ∃ v, e = .returned v ∧ OwnI w' w.heap.size v (castL (alnL x y rev)) ∧ Ext w w'
set_option maxRecDepth 100000 in
set_option maxHeartbeats 3200000 in
theorem alone_any (a b : SdA) (x y : Sd) (rev : Bool) (w : World) (ha : SdAt w a x) (hb : SdAt w b y) (hl0 : 0 ≤ y.len) (hl1 : y.len ≤ 1000000000000) :
  Calls Tryz.prog 48 #[SdV a x, SdV b y, .bool rev] w (RetAln w x y rev) := by
 have HH := Lib.hid (fun z W (h : Ext w W) (h0 : -1000000000000 ≤ z) (h1 : z ≤ 1000000000000) => has_any b y z W (hb.ext h) h0 h1)
 have HA := Lib.hid ha; clear ha hb
 obtain ⟨AN, nN, cN, AP, cP⟩ := a
 obtain ⟨BN, mN, dN, BP, dP⟩ := b
 have HAL : Hid (∀ i, alnB x y rev i = (decide ((gS x.ns i).1 = x.edge) && (decide (partE x.len y.len (gI x.pl i) ≠ 0) || !hasB y.ns y.pl y.edge (partV x.len y.len rev (gI x.pl i))))) := fun i => rfl
 have HPB : Hid (∀ i, 0 ≤ partV x.len y.len rev (gI x.pl i) ∧ partV x.len y.len rev (gI x.pl i) ≤ 1000000000000) := fun i => partV_bd hl0 hl1
 have HLL : Hid (alnL x y rev = alnTo x y rev x.ns.length) := rfl
 have HN : Hid (SpotsAt w AN x.ns) := HA.out.n
 have HLN : Hid (x.ns.length = nN) := HA.out.ln
 have HP : Hid (IntsAt w AP x.pl) := HA.out.p
 have HLP : Hid (x.pl.length = nN) := HA.out.lp
 have hb16 : nN ≤ 16 := HA.out.b
 clear HA
 simp only [SdV] at HH ⊢
 obtain ⟨i0, hi0, hz0, hz1, hz2⟩ := info_parts int_info
 go_enter Tryz.func48, Tryz.ntmps48
 go_wp2_with fail
 refine wp_at fun W0 hW0 => ?_
 have HB0 : Hid (Blk 104 W0 w.heap.size [.slice AN nN cN, .slice AP nN cP, .int .i64 x.edge, .int .i64 x.len]) := by show Blk _ _ _ _; rw [hW0]; exact (Blk.new' rfl).ext ((Ext.refl _).alloc _)
 have HC0 : Hid (Blk 104 W0 (w.heap.size + 1) [.slice BN mN dN, .slice BP mN dP, .int .i64 y.edge, .int .i64 y.len]) := by show Blk _ _ _ _; rw [hW0]; exact Blk.new' (by simp)
 have HX0 : Hid (Ext w W0) := by show Ext _ _; rw [hW0]; exact ((Ext.refl _).alloc _).alloc _
 clear hW0
 go_loopw [7, 15] (fun v i wr => ∃ k : Nat, k ≤ nN ∧ i = .int .i64 k ∧ OwnI wr W0.heap.size v (castL (alnTo x y rev k)) ∧ Ext W0 wr) (fun _ i _ => nN - (intOf i).toNat)
 case atStart => exact ⟨0, Nat.zero_le _, rfl, OwnI.nil _ _, Ext.refl _⟩
 case round =>
  obtain ⟨k, hk, rfl, ho, hx⟩ := hrel
  have hlk : (castL (alnTo x y rev k)).length ≤ k := by rw [castL_len]; exact alnTo_len x y rev k
  obtain ⟨LK, hLK⟩ : ∃ LK, LK = castL (alnTo x y rev k) := ⟨_, rfl⟩
  rw [← hLK] at ho hlk
  have HLKE := Lib.hid hLK; have HO := Lib.hid ho; have HX := Lib.hid hx; clear hLK ho hx
  have HXw := Lib.hid (HX0.out.trans HX.out)
  by_cases hlt : k < nN
  ·have hkl : k < x.ns.length := by rw [HLN.out]; exact hlt
   have HALk := Lib.hid (HAL.out k)
   obtain ⟨hp0, hp1⟩ := HPB.out k
   obtain ⟨bn, on, hAN, n0, n1⟩ := (HN.out.ext HXw.out).g (k := k) hkl
   subst hAN
   obtain ⟨bp, op, hAP, p0⟩ := (HP.out.ext HXw.out).g (k := k) (by rw [HLP.out]; exact hlt)
   subst hAP
   obtain ⟨PL, hPL⟩ : ∃ PL, PL = gI x.pl k := ⟨_, rfl⟩
   obtain ⟨ed, hed⟩ : ∃ ed, ed = (gS x.ns k).1 := ⟨_, rfl⟩
   rw [← hPL] at p0 hp0 hp1 HALk
   rw [← hed] at n0 HALk
   clear hPL hed
   have hnl := cell_lt n0
   have hpl := cell_lt p0
   have HB1 := Lib.hid (HB0.out.ext HX.out)
   have b2 := HB1.out.cell 2
   simp only [List.getElem?_cons_succ, List.getElem?_cons_zero] at b2
   have hbl : w.heap.size < wr.heap.size := HB1.out.lt
   by_cases he : ed = x.edge
   rotate_left
   ·have hne : (ed != x.edge) = true := by simp [he]
    have HNO : Hid (alnB x y rev k = false) := by show _ = _; rw [HALk.out, decide_eq_false he]; rfl
    have HO2 := Lib.hid (own_ext HO.out (show Ext wr (wr.alloc (.cells #[.int .i64 ed, .int .i64 (gS x.ns k).2] 79)) from (Ext.refl _).alloc _))
    go_wp2_with fail
    go_roundw
    case rel => exact ⟨k + 1, by omega, by go_num, by rw [alnTo_no HNO.out, ← HLKE.out]; exact HO2.out, HX.out.alloc _⟩
    case measure => simp [intOf]; omega
   have hne : (ed != x.edge) = false := by simp [he]
   rw [decide_eq_true he, Bool.true_and] at HALk
   go_upto_region 6 with fail
   refine wp_at fun W1 hW1 => ?_
   have hx1 : Ext wr W1 := by rw [hW1]; exact (Ext.refl _).alloc _
   have p1 := hx1.cell p0
   have HX1 := Lib.hid (HX.out.trans hx1)
   have HXr1 := Lib.hid hx1
   clear hW1 hx1 n0 n1 p0 hnl hpl b2 hbl
   have HBb := Lib.hid (HB0.out.ext HX1.out); have HCb := Lib.hid (HC0.out.ext HX1.out)
   have b1 := HBb.out.cell 1
   have b3 := HBb.out.cell 3
   have c3 := HCb.out.cell 3
   simp only [List.getElem?_cons_succ, List.getElem?_cons_zero] at b1 b3 c3
   obtain ⟨PV, hPV⟩ : ∃ PV, PV = partV x.len y.len rev PL := ⟨_, rfl⟩
   obtain ⟨PE, hPE⟩ : ∃ PE, PE = partE x.len y.len PL := ⟨_, rfl⟩
   rw [← hPV] at hp0 hp1
   rw [← hPV, ← hPE] at HALk
   have HPt : Hid (∀ W : World, Calls Tryz.prog 77 #[.int .i64 x.len, .int .i64 y.len, .bool rev, .int .i64 PL] W fun e w' => e = .returned (.tuple #[.int .i64 PV, .int .i64 PE]) ∧ Ext W w') := fun W => by rw [hPV, hPE]; exact partner_any x.len y.len PL rev W
   clear hPV hPE
   have z1 := fun z : After W1 => After.cell p1 z
   have z2 := fun z : After W1 => After.cell b1 z
   have z3 := fun z : After W1 => After.cell b3 z
   have z4 := fun z : After W1 => After.cell c3 z
   have hkk : (k : Int) < nN := by omega
   have hkk0 : (0 : Int) ≤ k := by omega
   refine region_ext (by kernel_rfl) (by kernel_rfl) ?_
   repeat (first | go_big_quiet_step ((go_at_call 77; exact after_call (HPt.out _))) | (go_big_quiet_want; go_simp; go_big_quiet_on))
   refine wpQuiet_nil ?_
   rintro w2 ⟨⟨_, he2⟩, rfl⟩
   clear z1 z2 z3 z4 p1 b1 b3 c3 hne
   have HX2 := Lib.hid (HX1.out.trans he2); have HXr2 := Lib.hid (HXr1.out.trans he2)
   clear he2
   have H63 : Hid (LK.length + 1 ≤ maxLen) := by show _ ≤ _; unfold maxLen; omega
   have H64 : Hid ((LK.length + 1) * 8 ≤ 140737488355328) := by show _ ≤ _; omega
   by_cases hz : PE = 0
   ·have hzb : (PE != 0) = false := by simp [hz]
    rw [decide_eq_false (show ¬ PE ≠ 0 from fun h => h hz), Bool.false_or] at HALk
    obtain ⟨d0, d1, d2, d3⟩ : w2.cell? ⟨w.heap.size + 1, 0, none⟩ = some (.slice BN mN dN) ∧ w2.cell? ⟨w.heap.size + 1, 1, none⟩ = some (.slice BP mN dP) ∧ w2.cell? ⟨w.heap.size + 1, 2, none⟩ = some (.int .i64 y.edge) ∧ w2.cell? ⟨w.heap.size + 1, 3, none⟩ = some (.int .i64 y.len) :=
     ⟨(HC0.out.ext HX2.out).cell 0, (HC0.out.ext HX2.out).cell 1, (HC0.out.ext HX2.out).cell 2, (HC0.out.ext HX2.out).cell 3⟩
    clear hz
    go_wp2_with fail
    refine (HH.out PV _ (HX0.out.trans HX2.out) (by omega) hp1).mono ?_
    rintro e w3 ⟨rfl, he3⟩
    clear d0 d1 d2 d3
    have HX3 := Lib.hid (HX2.out.trans he3); have HXr3 := Lib.hid (HXr2.out.trans he3)
    clear he3
    cases hh : hasB y.ns y.pl y.edge PV
    ·rw [hh] at HALk
     have HYES : Hid (alnB x y rev k = true) := HALk.out
     have hbb : W0.heap.size ≤ w3.heap.size := HX3.out.size
     have HC6 : Hid (W0.heap.size ≤ (w3.alloc (.cells #[.int .i64 (k : Int)] 3)).heap.size) := by show _ ≤ _; simp; omega
     clear hh
     go_wp2_with (at_builtin; refine wpList_append_own _ rfl (.tmp 47) (.tmp 49) 23 rfl W0.heap.size 3 i0 (.int .i64 0) 1 8 Tryz.underlying23 hi0 hz0 hz1 hz2 rfl (by decide) _ _ _ rfl (World.ownsRow.alloc (own_ext HO.out HXr3.out) _) ⟨w3.heap.size, 0, none⟩ 1 1 [.int .i64 (k : Int)] rfl rfl (World.news_of_block (cs := #[.int .i64 (k : Int)]) (t := 3) (fr := (0, 0)) (heap_alloc_new w3 _)) (by simp [Value.oneCell']) H63.out H64.out HC6.out ?_)
     intro v' w4 hown' hgrow _
     have hO' : OwnI w4 W0.heap.size v' (castL (alnTo x y rev (k + 1))) := by
      rw [alnTo_yes HYES.out, castL_append, ← HLKE.out]
      unfold OwnI icells
      rw [List.length_append, List.map_append]
      exact hown'
     have hx' : Ext W0 w4 := (HX3.out.alloc _).grown hgrow (fun g hg => (World.ownsRow.lt HO.out g hg).1)
     have HO' := Lib.hid hO'; clear hO' hown' hgrow
     go_wp2_with fail
     go_roundw
     case rel => exact ⟨k + 1, by omega, by go_num, HO'.out, hx'⟩
     case measure => simp [intOf]; omega
    ·rw [hh] at HALk
     have HNO : Hid (alnB x y rev k = false) := HALk.out
     have HO2 := Lib.hid (own_ext HO.out HXr3.out)
     clear hh
     go_wp2_with fail
     go_roundw
     case rel => exact ⟨k + 1, by omega, by go_num, by rw [alnTo_no HNO.out, ← HLKE.out]; exact HO2.out, HX3.out⟩
     case measure => simp [intOf]; omega
   ·have hzb : (PE != 0) = true := by simp [hz]
    rw [decide_eq_true hz, Bool.true_or] at HALk
    have HYES : Hid (alnB x y rev k = true) := HALk.out
    have hbb : W0.heap.size ≤ w2.heap.size := HX2.out.size
    have HC6 : Hid (W0.heap.size ≤ (w2.alloc (.cells #[.int .i64 (k : Int)] 3)).heap.size) := by show _ ≤ _; simp; omega
    clear hz
    go_wp2_with (at_builtin; refine wpList_append_own _ rfl (.tmp 47) (.tmp 49) 23 rfl W0.heap.size 3 i0 (.int .i64 0) 1 8 Tryz.underlying23 hi0 hz0 hz1 hz2 rfl (by decide) _ _ _ rfl (World.ownsRow.alloc (own_ext HO.out HXr2.out) _) ⟨w2.heap.size, 0, none⟩ 1 1 [.int .i64 (k : Int)] rfl rfl (World.news_of_block (cs := #[.int .i64 (k : Int)]) (t := 3) (fr := (0, 0)) (heap_alloc_new w2 _)) (by simp [Value.oneCell']) H63.out H64.out HC6.out ?_)
    intro v' w4 hown' hgrow _
    have hO' : OwnI w4 W0.heap.size v' (castL (alnTo x y rev (k + 1))) := by
     rw [alnTo_yes HYES.out, castL_append, ← HLKE.out]
     unfold OwnI icells
     rw [List.length_append, List.map_append]
     exact hown'
    have hx' : Ext W0 w4 := (HX2.out.alloc _).grown hgrow (fun g hg => (World.ownsRow.lt HO.out g hg).1)
    have HO' := Lib.hid hO'; clear hO' hown' hgrow
    go_wp2_with fail
    go_roundw
    case rel => exact ⟨k + 1, by omega, by go_num, HO'.out, hx'⟩
    case measure => simp [intOf]; omega
  ·obtain rfl : k = nN := by omega
   go_wp2_with fail
   go_ret
   refine ⟨_, rfl, ?_, HXw.out⟩
   rw [HLL.out, HLN.out, ← HLKE.out]
   exact own_base_le HO.out HX0.out.size
def isscells (l : List Iss) : List Value := l.flatMap fun s => [.int .i64 s.1, .int .i64 s.2.1, .int .i64 s.2.2]
theorem isscells_append (a b : List Iss) : isscells (a ++ b) = isscells a ++ isscells b := by simp [isscells]
def OwnK (w : World) (base : Nat) (v : Value) (l : List Iss) : Prop := w.ownsRow base 108 3 v l.length (isscells l)
theorem issue_info : (Tryz.prog.info? 108).map (fun i => (i.zero, i.size, i.bytes)) = some (some (.agg #[.int .i64 0, .int .i64 0, .int .i64 0]), 3, 24) := by kernel_rfl
theorem issK_take {kind : Int} {k : Nat} {l : List Nat} {j : Nat} (hj : j < l.length) : issK kind k (l.take (j + 1)) = issK kind k (l.take j) ++ [(kind, (k : Int), ((l[j] : Nat) : Int))] := by
 unfold issK
 rw [List.take_add_one, List.map_append]
 simp [hj]
theorem castL_get {l : List Nat} {j : Nat} (hj : j < l.length) : gI (castL l) j = ((l[j] : Nat) : Int) := by
 rw [gI_eq (by rw [castL_len]; exact hj)]; simp [castL]
def RetUm (w : World) (s : Sty) (z : Int) (e : Ending) (w' : World) : Prop :=
 ∃ v, e = .returned (.tuple #[v, .int .i64 (unmE s z)]) ∧ (unmE s z = 0 → OwnK w' w.heap.size v (unmL s z)) ∧ (unmE s z ≠ 0 → v = .slice none 0 0) ∧ Ext w w'
theorem retUm_bad {w w' : World} {s : Sty} {z x : Int} (h : unmE s z = x) (hx : x ≠ 0) (he : Ext w w') : RetUm w s z (.returned (.tuple #[.slice none 0 0, .int .i64 x])) w' :=
 ⟨_, by rw [h], fun h0 => absurd (h.symm.trans h0) hx, fun _ => rfl, he⟩
theorem sd_range {p : Pc} {m : Int} (h : PlOk p m) : ∀ i, i < p.ns.length → 0 ≤ gI (plL p m) i ∧ gI (plL p m) i ≤ 1000000000000 := fun i hi => by
 rw [plL_get hi]
 have hb := plV_bd (h.i i hi)
 have := lengthN_bd (gE (gradedE p.es p.cs m) (gS p.ns i).1.toNat).2
 unfold grdN at hb
 omega
theorem issK_len (kind : Int) (k : Nat) (l : List Nat) : (issK kind k l).length = l.length := by simp [issK]
theorem blk4 {t : TypeId} {w : World} {g : Nat} {v0 v1 v2 v3 : Value} (h : Blk t w g [v0, v1, v2, v3]) : w.cell? ⟨g, 0, none⟩ = some v0 ∧ w.cell? ⟨g, 1, none⟩ = some v1 ∧ w.cell? ⟨g, 2, none⟩ = some v2 ∧ w.cell? ⟨g, 3, none⟩ = some v3 := ⟨h.cell 0, h.cell 1, h.cell 2, h.cell 3⟩
theorem blk_grown {t t2 : TypeId} {w w' : World} {g b2 s2 n2 : Nat} {cs x2 : List Value} {v2 : Value} (h : Blk t w g cs) (h2 : w.ownsRow b2 t2 s2 v2 n2 x2) (hne : t2 ≠ t) (hg : w.grownBy w' v2.ownBlock) : Blk t w' g cs := (hg.block _ h.lt (Ne.symm (own_blk_ne h2 h hne))).trans h
theorem own_grown {w w' : World} {b1 b2 : Nat} {e1 e2 : TypeId} {s1 s2 n1 n2 : Nat} {v1 v2 : Value} {x1 x2 : List Value} (h : w.ownsRow b1 e1 s1 v1 n1 x1) (h2 : w.ownsRow b2 e2 s2 v2 n2 x2) (hne : e1 ≠ e2) (hg : w.grownBy w' v2.ownBlock) : w'.ownsRow b1 e1 s1 v1 n1 x1 := World.ownsRow.kept h hg (own_ne h h2 hne)
/- both sides, the seam and the sides' places in a world -/
structure Um2 (W : World) (gA gB gX : Nat) (cA cB cX : List Value) (vA vB : Value) (lA lB : List Int) : Prop where
 a : Blk 104 W gA cA
 b : Blk 104 W gB cB
 x : Blk 71 W gX cX
 p : OwnI W 0 vA lA
 q : OwnI W 0 vB lB
theorem Um2.ext {W W' : World} {gA gB gX : Nat} {cA cB cX : List Value} {vA vB : Value} {lA lB : List Int} (h : Um2 W gA gB gX cA cB cX vA vB lA lB) (he : Ext W W') : Um2 W' gA gB gX cA cB cX vA vB lA lB :=
 ⟨h.a.ext he, h.b.ext he, h.x.ext he, own_ext h.p he, own_ext h.q he⟩
theorem Um2.grown {W W' : World} {gA gB gX : Nat} {cA cB cX : List Value} {vA vB : Value} {lA lB : List Int} {b2 n2 : Nat} {v2 : Value} {x2 : List Value} (h : Um2 W gA gB gX cA cB cX vA vB lA lB) (h2 : W.ownsRow b2 108 3 v2 n2 x2) (hg : W.grownBy W' v2.ownBlock) : Um2 W' gA gB gX cA cB cX vA vB lA lB :=
 ⟨blk_grown h.a h2 (by decide) hg, blk_grown h.b h2 (by decide) hg, blk_grown h.x h2 (by decide) hg, own_grown h.p h2 (by decide) hg, own_grown h.q h2 (by decide) hg⟩
theorem sd_at {W : World} {a : SdA} {p : Pc} {m E L : Int} (hp : PlOk p m) (hn : SpotsAt W a.AN p.ns) (hl : p.ns.length = a.nN) (ho : OwnI W 0 (.slice a.AP a.nN a.cP) (plL p m)) : SdAt W a ⟨p.ns, plL p m, E, L⟩ :=
 ⟨hn, hl, (OwnI.plain ho).2.1, by rw [plL_len]; exact hl, by rw [← hl]; exact hp.n, sd_range hp⟩
/- Placed, its list as a slice -/
theorem placedS_any (a : PcA) (p : Pc) (m : Int) (w : World) (hp : PcAt w a p) :
  Calls Tryz.prog 47 #[a.val, .int .i64 m] w fun e w' => ∃ A1 n1 c1, e = .returned (.tuple #[.slice A1 n1 c1, .int .i64 (plE p m)]) ∧ (plE p m = 0 → OwnI w' w.heap.size (.slice A1 n1 c1) (plL p m) ∧ n1 = p.ns.length) ∧ Ext w w' :=
 (placedX_any a p m w hp).mono fun e w' ⟨v, h1, h2, h3, h4⟩ => by
  by_cases hz : plE p m = 0
  ·obtain ⟨A, c, hv, _⟩ := OwnI.slice' (n := p.ns.length) (h2 hz) (plL_len p m)
   exact ⟨A, _, c, by rw [h1, hv], fun _ => ⟨by rw [← hv]; exact h2 hz, rfl⟩, h4⟩
  ·exact ⟨none, 0, 0, by rw [h1, h3 hz], fun h => absurd h hz, h4⟩
/- when Lengths answers, the seam's pieces and edges are there -/
theorem lens_cond {s : Sty} {z : Int} {k : Nat} (h : (lensV s z k).2.2 = 0) : edgeB s (gSm s.ss k).pa (gSm s.ss k).ea = true ∧ edgeB s (gSm s.ss k).pb (gSm s.ss k).eb = true := by
 have h' : lensE s z k = 0 := by
  unfold lensV at h
  split at h
  ·exact h
  ·rename_i h1; exact Classical.not_not.1 h1
 unfold lensE at h'
 split at h'
 ·cases h'
 split at h'
 ·cases h'
 ·rename_i h1 h2
  have := Classical.not_not.1 h2
  rw [Int.toNat_natCast] at this
  exact this
set_option maxRecDepth 100000 in
set_option maxHeartbeats 6400000 in
theorem unmatched_any (a : StyA) (s : Sty) (z : Int) (w : World) (hs : StyAt w a s) (hn : a.nK ≤ 1000) :
  Calls Tryz.prog 19 #[a.val, .int .i64 z] w (RetUm w s z) := by
 have HS := Lib.hid hs; clear hs
 have HD := Lib.hid (fun k W (h : Ext w W) => lengths_any a s z k W (HS.out.ext h))
 obtain ⟨nm, AS, nS, cS, AM, nM, cM, AP, nP, cP, AU, nU, cU, AK, nK, cK, AO, nO, cO⟩ := a
 have HLK : Hid (s.ss.length = nK) := HS.out.lK
 have HLM : Hid (s.ms.length = nM) := HS.out.lM
 have HLP : Hid (s.ps.length = nP) := HS.out.lP
 have HKS : Hid (SeamsAt w AK s.ss) := HS.out.K
 have HMS : Hid (IntsAt w AM s.ms) := HS.out.M
 have HPS : Hid (PiecesAt w AP s.ps) := HS.out.P
 clear HS
 simp only at hn
 simp only [StyA.val] at HD ⊢
 obtain ⟨i0, hi0, hz0, hz1, hz2⟩ := info_parts issue_info
 go_enter Tryz.func19, Tryz.ntmps19
 go_upto_region 1 with fail
 refine wp_at fun w1 hW1 => ?_
 have HB1 : Hid (Blk 29 w1 w.heap.size [.string nm, .slice AS nS cS, .slice AM nM cM, .slice AP nP cP, .slice AU nU cU, .slice AK nK cK, .slice AO nO cO]) := by show Blk _ _ _ _; rw [hW1]; exact Blk.new' rfl
 have HX1 : Hid (Ext w w1) := by show Ext _ _; rw [hW1]; exact (Ext.refl w).alloc _
 clear hW1
 obtain ⟨c0, c1, c2, c3, c4, c5, c6⟩ := blk7 HB1.out
 by_cases g0 : z < 0
 ·have HR : Hid (unmE s z = 3) := by show _ = _; unfold unmE; rw [if_pos (show sizeB s z = false from decide_eq_false (by omega))]
  go_wp2_with fail
  go_ret2
  exact retUm_bad HR.out (by decide) HX1.out
 by_cases g1 : (nM : Int) ≤ z
 ·have HR : Hid (unmE s z = 3) := by show _ = _; unfold unmE; rw [if_pos (show sizeB s z = false from decide_eq_false (by rw [HLM.out]; omega))]
  go_wp2_with fail
  go_ret2
  exact retUm_bad HR.out (by decide) HX1.out
 obtain ⟨Z, rfl⟩ := Int.eq_ofNat_of_zero_le (show 0 ≤ z by omega)
 have hZ : Z < nM := by omega
 have HUE : Hid (unmE s Z = firstE (seamE s Z) nK) := by show _ = _; unfold unmE; rw [if_neg (by rw [show sizeB s Z = true from decide_eq_true (by rw [HLM.out]; omega)]; decide), HLK.out]
 go_wp2_with fail
 clear c0 c1 c2 c3 c4 c5 c6 g0 g1
 go_loopw [6, 30] (fun v i wr => ∃ k : Nat, k ≤ nK ∧ i = .int .i64 k ∧ firstE (seamE s Z) k = 0 ∧ OwnK wr w1.heap.size v (unmTo s Z k) ∧ (unmTo s Z k).length ≤ 32 * k ∧ Ext w1 wr) (fun _ i _ => nK - (intOf i).toNat)
 case atStart => exact ⟨0, Nat.zero_le _, rfl, rfl, World.ownsRow_nil _ _ _ _, Nat.le_refl _, Ext.refl _⟩
 case round =>
  obtain ⟨k, hk, rfl, ht, ho, hlen, hx⟩ := hrel
  have HT := Lib.hid ht; have HO := Lib.hid ho; have HX := Lib.hid hx; have HLEN := Lib.hid hlen; clear ht ho hx hlen
  have HXw := Lib.hid (HX1.out.trans HX.out)
  by_cases hlt : k < nK
  ·have hkl : k < s.ss.length := by rw [HLK.out]; exact hlt
   obtain ⟨bk, ok, hAK, hsm⟩ := (HKS.out.ext HXw.out) k hkl
   subst hAK
   obtain ⟨sm, hsmd⟩ : ∃ sm, sm = gSm s.ss k := ⟨_, rfl⟩
   rw [← hsmd] at hsm
   have HSM := Lib.hid hsmd.symm; clear hsmd
   obtain ⟨pa, ea, pb, eb, rv, es⟩ := sm
   obtain ⟨k0, k1, k2, k3, k4, k5⟩ := hsm
   simp only at k0 k1 k2 k3 k4 k5
   obtain ⟨c0, c1, c2, c3, c4, c5, c6⟩ := blk7 (HB1.out.ext HX.out)
   have hpl : w.heap.size < wr.heap.size := (HB1.out.ext HX.out).lt
   have HXL : Hid (Ext wr (wr.alloc (.cells #[.int .i64 pa, .int .i64 ea, .int .i64 pb, .int .i64 eb, .bool rv, .int .i64 es] 71))) := (Ext.refl _).alloc _
   go_wp2_with fail
   refine (HD.out (k : Int) _ (HXw.out.trans HXL.out)).mono ?_
   rintro e w2 ⟨rfl, he2⟩
   have HSB : Hid (Blk 71 w2 wr.heap.size [.int .i64 pa, .int .i64 ea, .int .i64 pb, .int .i64 eb, .bool rv, .int .i64 es]) := (Blk.new' rfl).ext he2
   have HX2 := Lib.hid ((HX.out.trans HXL.out).trans he2)
   have HXr2 := Lib.hid (HXL.out.trans he2)
   clear he2 HXL c0 c1 c2 c3 c4 c5 c6 k0 k1 k2 k3 k4 k5 hpl
   obtain ⟨xb, hxb⟩ : ∃ xb, xb = wr.heap.size := ⟨_, rfl⟩
   rw [← hxb] at HSB ⊢
   clear hxb
   obtain ⟨bd1, bd2, bd3, bd4⟩ := lensV_bd s Z k
   have HCOND := Lib.hid (fun h => lens_cond (s := s) (z := Z) (k := k) h)
   have HSE : Hid (seamE s Z k = if (lensV s Z k).2.2 ≠ 0 then (lensV s Z k).2.2 else if plE (gPc s.ps pa.toNat) (gI s.ms Z) ≠ 0 then plE (gPc s.ps pa.toNat) (gI s.ms Z) else plE (gPc s.ps pb.toNat) (gI s.ms Z)) := by show _ = _; unfold seamE; rw [HSM.out, Int.toNat_natCast]
   have HSA : Hid (sdA s Z k = ⟨(gPc s.ps pa.toNat).ns, plL (gPc s.ps pa.toNat) (gI s.ms Z), ea, (lensV s Z k).1⟩) := by show _ = _; unfold sdA; rw [HSM.out, Int.toNat_natCast]
   have HSBd : Hid (sdB s Z k = ⟨(gPc s.ps pb.toNat).ns, plL (gPc s.ps pb.toNat) (gI s.ms Z), eb, (lensV s Z k).2.1⟩) := by show _ = _; unfold sdB; rw [HSM.out, Int.toNat_natCast]
   obtain ⟨V, hV⟩ : ∃ V, V = lensV s Z k := ⟨_, rfl⟩
   rw [← hV] at bd1 bd2 bd3 bd4 HSE HSA HSBd HCOND ⊢
   clear hV
   obtain ⟨LA, LB, E⟩ := V
   simp only at bd1 bd2 bd3 bd4 HSE HSA HSBd HCOND
   simp only [LenV]
   by_cases hz : E = 0
   rotate_left
   ·have HR : Hid (unmE s Z = E) := by
     show _ = _
     have e : seamE s Z k = E := by rw [HSE.out, if_pos hz]
     rw [HUE.out, firstE_at hlt HT.out (by rw [e]; exact hz), e]
    have hzb : (E != 0) = true := by simp [hz]
    have HZ := Lib.hid hz; clear hz
    go_wp2_with fail
    go_ret2
    exact retUm_bad HR.out HZ.out (HX1.out.trans HX2.out)
   subst hz
   obtain ⟨hca, hcb⟩ := HCOND.out rfl
   rw [HSM.out] at hca hcb
   simp only at hca hcb
   obtain ⟨qa0, qa1, qa2, qa3⟩ := edgeB_iff hca
   obtain ⟨qb0, qb1, qb2, qb3⟩ := edgeB_iff hcb
   obtain ⟨PA, rfl⟩ := Int.eq_ofNat_of_zero_le qa0
   obtain ⟨PB, rfl⟩ := Int.eq_ofNat_of_zero_le qb0
   rw [HLP.out] at qa1 qb1
   have hPA : PA < nP := by omega
   have hPB : PB < nP := by omega
   clear hca hcb HCOND qa0 qa1 qa2 qa3 qb0 qb1 qb2 qb3
   rw [Int.toNat_natCast] at HSA HSBd
   rw [Int.toNat_natCast, Int.toNat_natCast] at HSE
   obtain ⟨M, hM⟩ : ∃ M, gI s.ms Z = M := ⟨_, rfl⟩
   rw [hM] at HSE HSA HSBd
   have HM := Lib.hid hM; clear hM
   have HXi := Lib.hid (HX1.out.trans HX2.out)
   have HBi := Lib.hid (HB1.out.ext HX2.out)
   have HSi := Lib.hid HSB.out
   have hxl : xb < w2.heap.size := HSB.out.lt
   obtain ⟨bpA, opA, qA, hAP, hp0, hcA⟩ := HPS.out PA (by rw [HLP.out]; exact hPA)
   subst hAP
   have hpA := hp0.ext HXi.out
   have HPCA := Lib.hid (fun W (h : Ext w2 W) => placedS_any qA (gPc s.ps PA) M W (hpA.ext h))
   have HNAA := Lib.hid hp0.n; have HNLA := Lib.hid hp0.ln
   obtain ⟨nmA, AEA, nEA, cEA, grA, ANA, nNA, cNA, ACA, nCA, cCA, AWA, nWA, cWA, mtA⟩ := qA
   obtain ⟨a0, a1, a2, a3, a4, a5, a6⟩ := hcA
   simp only [PcA.val] at HPCA HNAA HNLA a0 a1 a2 a3 a4 a5 a6
   clear hpA hp0
   replace a0 := HXi.out.cell a0
   replace a1 := HXi.out.cell a1
   replace a2 := HXi.out.cell a2
   replace a3 := HXi.out.cell a3
   replace a4 := HXi.out.cell a4
   replace a5 := HXi.out.cell a5
   replace a6 := HXi.out.cell a6
   obtain ⟨c0, c1, c2, c3, c4, c5, c6⟩ := blk7 HBi.out
   obtain ⟨x0, x1, x2, x3, x4, x5⟩ := blk6 HSi.out
   obtain ⟨bm, om, hAM, m0⟩ := (HMS.out.ext HXi.out).g (k := Z) (by rw [HLM.out]; exact hZ)
   subst hAM
   rw [HM.out] at m0
   have hPn : (PA : Int) < nP := by omega
   have hPn0 : (0 : Int) ≤ PA := by omega
   have hZn : (Z : Int) < nM := by omega
   have hZn0 : (0 : Int) ≤ Z := by omega
   go_upto_region 10 with fail
   go_cut [12] from 46 to 56 (fun pt wc => ∃ sb, pt = .pointer (some ⟨sb, 0, none⟩) ∧ Blk 104 wc sb [.slice ANA nNA cNA, .slice none 0 0, .int .i64 ea, .int .i64 LA] ∧ Ext w2 wc ∧ w2.heap.size ≤ sb)
   case first =>
    have keep : ∀ W2 : World, Ext w2 W2 → (Ext w2 W2 ∧ W2.cell? ⟨w.heap.size, 3, none⟩ = some (.slice (some ⟨bpA, opA, none⟩) nP cP) ∧ W2.cell? ⟨xb, 0, none⟩ = some (.int .i64 (PA : Int)) ∧ W2.cell? ⟨xb, 1, none⟩ = some (.int .i64 ea) ∧ W2.cell? ⟨bpA, opA + PA * 7 + 3, none⟩ = some (.slice ANA nNA cNA)) := fun W2 hx => ⟨hx, hx.cell c3, hx.cell x0, hx.cell x1, hx.cell a3⟩
    have KEEP := Lib.hid keep; clear keep c0 c1 c2 c3 c4 c5 c6 x0 x1 x2 x3 x4 x5 a0 a1 a2 a3 a4 a5 a6 m0
    go_region_held3 (fun W => Ext w2 W ∧ W.cell? ⟨w.heap.size, 3, none⟩ = some (.slice (some ⟨bpA, opA, none⟩) nP cP) ∧ W.cell? ⟨xb, 0, none⟩ = some (.int .i64 (PA : Int)) ∧ W.cell? ⟨xb, 1, none⟩ = some (.int .i64 ea) ∧ W.cell? ⟨bpA, opA + PA * 7 + 3, none⟩ = some (.slice ANA nNA cNA))
     (first | (with_reducible assumption) | (with_reducible exact KEEP.out _ (Ext.drew (Ext.refl _))) | (with_reducible exact KEEP.out _ (Ext.drew (Ext.alloc (Ext.refl _) _))) | fail)
     (first | fail)
    all_goals
     go_wp2_with fail
     go_meet
    all_goals exact ⟨_, rfl, (Blk.new' rfl).ext ((Ext.refl _).drew), ((Ext.refl _).alloc _).drew, Nat.le_refl _⟩
   case rest =>
   obtain ⟨sbA, hsb, hBs, hxc, hslA⟩ := hcut
   subst hsb
   obtain ⟨wzA, hwzA⟩ : ∃ wzA : World, wzA = wc := ⟨_, rfl⟩
   subst hwzA
   have HBsA := Lib.hid hBs; have HXcA := Lib.hid hxc
   clear hBs hxc
   have b0 := HXcA.out.cell a0
   have b1 := HXcA.out.cell a1
   have b2 := HXcA.out.cell a2
   have b3 := HXcA.out.cell a3
   have b4 := HXcA.out.cell a4
   have b5 := HXcA.out.cell a5
   have b6 := HXcA.out.cell a6
   have d2 := HXcA.out.cell c2
   have d3 := HXcA.out.cell c3
   have y0 := HXcA.out.cell x0
   have n0 := HXcA.out.cell m0
   have l0 := cell_lt a0
   have l1 := cell_lt c2
   have l2 := cell_lt x0
   have l3 := cell_lt m0
   clear c0 c1 c2 c3 c4 c5 c6 x0 x1 x2 x3 x4 x5 a0 a1 a2 a3 a4 a5 a6 m0
   obtain ⟨PEA, hPEA⟩ : ∃ x, x = plE (gPc s.ps PA) M := ⟨_, rfl⟩
   have HPCz : Hid (∀ W, Ext wzA W → Calls Tryz.prog 47 #[.agg #[.string nmA, .slice AEA nEA cEA, .int .i64 grA, .slice ANA nNA cNA, .slice ACA nCA cCA, .slice AWA nWA cWA, .bool mtA], .int .i64 M] W fun e w' => ∃ A1 n1 c1, e = .returned (.tuple #[.slice A1 n1 c1, .int .i64 PEA]) ∧ (PEA = 0 → OwnI w' W.heap.size (.slice A1 n1 c1) (plL (gPc s.ps PA) M) ∧ n1 = (gPc s.ps PA).ns.length) ∧ Ext W w') := fun W h => by rw [hPEA]; exact HPCA.out W (HXcA.out.trans h)
   have HPEA := Lib.hid hPEA
   clear HPCA hPEA
   go_upto_region 11 with fail
   go_cut [11] from 57 to 72 (fun ev wc => ∃ A1 n1 c1, ev = .int .i64 PEA ∧ Blk 104 wc sbA [.slice ANA nNA cNA, .slice A1 n1 c1, .int .i64 ea, .int .i64 LA] ∧ (PEA = 0 → OwnI wc wzA.heap.size (.slice A1 n1 c1) (plL (gPc s.ps PA) M) ∧ n1 = (gPc s.ps PA).ns.length) ∧ Kept (fun j => j = sbA) wzA wc)
   case first =>
    have keep : ∀ W2 : World, Ext wzA W2 → (W2.cell? ⟨w.heap.size, 2, none⟩ = some (.slice (some ⟨bm, om, none⟩) nM cM) ∧ W2.cell? ⟨w.heap.size, 3, none⟩ = some (.slice (some ⟨bpA, opA, none⟩) nP cP) ∧ W2.cell? ⟨xb, 0, none⟩ = some (.int .i64 (PA : Int)) ∧ W2.cell? ⟨bm, om + Z, none⟩ = some (.int .i64 M) ∧ W2.cell? ⟨bpA, opA + PA * 7, none⟩ = some (.string nmA) ∧ W2.cell? ⟨bpA, opA + PA * 7 + 1, none⟩ = some (.slice AEA nEA cEA) ∧ W2.cell? ⟨bpA, opA + PA * 7 + 2, none⟩ = some (.int .i64 grA) ∧ W2.cell? ⟨bpA, opA + PA * 7 + 3, none⟩ = some (.slice ANA nNA cNA) ∧ W2.cell? ⟨bpA, opA + PA * 7 + 4, none⟩ = some (.slice ACA nCA cCA) ∧ W2.cell? ⟨bpA, opA + PA * 7 + 5, none⟩ = some (.slice AWA nWA cWA) ∧ W2.cell? ⟨bpA, opA + PA * 7 + 6, none⟩ = some (.bool mtA)) := fun W2 hx => ⟨hx.cell d2, hx.cell d3, hx.cell y0, hx.cell n0, hx.cell b0, hx.cell b1, hx.cell b2, hx.cell b3, hx.cell b4, hx.cell b5, hx.cell b6⟩
    have KEEP := Lib.hid keep
    have KSET : Hid (∀ (W2 : World) (u : Value), Ext wzA W2 → ((W2.setCell ⟨sbA, 1, none⟩ u).cell? ⟨w.heap.size, 2, none⟩ = some (.slice (some ⟨bm, om, none⟩) nM cM) ∧ (W2.setCell ⟨sbA, 1, none⟩ u).cell? ⟨w.heap.size, 3, none⟩ = some (.slice (some ⟨bpA, opA, none⟩) nP cP) ∧ (W2.setCell ⟨sbA, 1, none⟩ u).cell? ⟨xb, 0, none⟩ = some (.int .i64 (PA : Int)) ∧ (W2.setCell ⟨sbA, 1, none⟩ u).cell? ⟨bm, om + Z, none⟩ = some (.int .i64 M) ∧ (W2.setCell ⟨sbA, 1, none⟩ u).cell? ⟨bpA, opA + PA * 7, none⟩ = some (.string nmA) ∧ (W2.setCell ⟨sbA, 1, none⟩ u).cell? ⟨bpA, opA + PA * 7 + 1, none⟩ = some (.slice AEA nEA cEA) ∧ (W2.setCell ⟨sbA, 1, none⟩ u).cell? ⟨bpA, opA + PA * 7 + 2, none⟩ = some (.int .i64 grA) ∧ (W2.setCell ⟨sbA, 1, none⟩ u).cell? ⟨bpA, opA + PA * 7 + 3, none⟩ = some (.slice ANA nNA cNA) ∧ (W2.setCell ⟨sbA, 1, none⟩ u).cell? ⟨bpA, opA + PA * 7 + 4, none⟩ = some (.slice ACA nCA cCA) ∧ (W2.setCell ⟨sbA, 1, none⟩ u).cell? ⟨bpA, opA + PA * 7 + 5, none⟩ = some (.slice AWA nWA cWA) ∧ (W2.setCell ⟨sbA, 1, none⟩ u).cell? ⟨bpA, opA + PA * 7 + 6, none⟩ = some (.bool mtA))) := fun W2 u hx => by
     obtain ⟨k1, k2, k3, k4, k5, k6, k7, k8, k9, k10, k11⟩ := keep W2 hx
     have far : ∀ (b o : Nat) (v : Value), b < w2.heap.size → W2.cell? ⟨b, o, none⟩ = some v → (W2.setCell ⟨sbA, 1, none⟩ u).cell? ⟨b, o, none⟩ = some v := fun b o v hb h => (World.cell?_setCell_far W2 ⟨sbA, 1, none⟩ ⟨b, o, none⟩ u (show sbA ≠ b by omega)).trans h
     exact ⟨far _ _ _ l1 k1, far _ _ _ l1 k2, far _ _ _ l2 k3, far _ _ _ l3 k4, far _ _ _ l0 k5, far _ _ _ l0 k6, far _ _ _ l0 k7, far _ _ _ l0 k8, far _ _ _ l0 k9, far _ _ _ l0 k10, far _ _ _ l0 k11⟩
    clear keep b0 b1 b2 b3 b4 b5 b6 d2 d3 y0 n0
    go_region_held3 (fun W => W.cell? ⟨w.heap.size, 2, none⟩ = some (.slice (some ⟨bm, om, none⟩) nM cM) ∧ W.cell? ⟨w.heap.size, 3, none⟩ = some (.slice (some ⟨bpA, opA, none⟩) nP cP) ∧ W.cell? ⟨xb, 0, none⟩ = some (.int .i64 (PA : Int)) ∧ W.cell? ⟨bm, om + Z, none⟩ = some (.int .i64 M) ∧ W.cell? ⟨bpA, opA + PA * 7, none⟩ = some (.string nmA) ∧ W.cell? ⟨bpA, opA + PA * 7 + 1, none⟩ = some (.slice AEA nEA cEA) ∧ W.cell? ⟨bpA, opA + PA * 7 + 2, none⟩ = some (.int .i64 grA) ∧ W.cell? ⟨bpA, opA + PA * 7 + 3, none⟩ = some (.slice ANA nNA cNA) ∧ W.cell? ⟨bpA, opA + PA * 7 + 4, none⟩ = some (.slice ACA nCA cCA) ∧ W.cell? ⟨bpA, opA + PA * 7 + 5, none⟩ = some (.slice AWA nWA cWA) ∧ W.cell? ⟨bpA, opA + PA * 7 + 6, none⟩ = some (.bool mtA))
     (first | (with_reducible exact KSET.out _ _ hx2) | (with_reducible assumption) | (with_reducible exact KEEP.out _ (Ext.drew (Ext.refl _))) | (with_reducible exact KEEP.out _ hx2) | fail)
     (first
      |(go_at_call 47; (with_reducible refine (HPCz.out wzA.drew (Ext.drew (Ext.refl _))).mono ?_); rintro e w2' ⟨A1, n1, c1, rfl, hOI, he2⟩; have hx2 : Ext wzA w2' := (Ext.drew (Ext.refl _)).trans he2; have hB1 := HBsA.out.ext hx2; have s1 : w2'.cell? ⟨sbA, 1, none⟩ = some (.slice none 0 0) := hB1.cell 1; have e1 := hB1.frozen 1; have HB1' := Lib.hid hB1; have HOI := Lib.hid hOI; clear hB1 hOI)
      |fail)
    all_goals
     go_wp2_with fail
     go_meet
    all_goals exact ⟨A1, n1, c1, rfl, HB1'.out.set 1 _, fun h => ⟨own_set (HOI.out h).1 (own_blk_ne (HOI.out h).1 HB1'.out (by decide)) _, (HOI.out h).2⟩, (hx2.kept (fun j => j = sbA)).set (.inr rfl) _⟩
   case rest =>
   obtain ⟨A1A, n1A, c1A, hev, hBs, hOI, hKc⟩ := hcut
   subst hev
   obtain ⟨wkA, hwkA⟩ : ∃ wkA : World, wkA = wc := ⟨_, rfl⟩
   subst hwkA
   clear b0 b1 b2 b3 b4 b5 b6 d2 d3 y0 n0 l0 l1 l2 l3
   have HBkA := Lib.hid hBs; have HOIA := Lib.hid hOI; have HKcA := Lib.hid hKc
   have HXik := Lib.hid (show Ext w2 wkA from hKc.ext HXcA.out (fun j hj => by omega))
   clear hBs hOI hKc HPCz hPn hPn0 hZn hZn0
   by_cases hzA : PEA = 0
   rotate_left
   ·have HR : Hid (unmE s Z = PEA) := by
     show _ = _
     have e : seamE s Z k = PEA := by rw [HSE.out, if_neg (fun h => h rfl), ← HPEA.out, if_pos hzA]
     rw [HUE.out, firstE_at hlt HT.out (by rw [e]; exact hzA), e]
    have hzb : (PEA != 0) = true := by simp [hzA]
    have HZ := Lib.hid hzA; clear hzA
    go_wp2_with fail
    go_ret2
    exact retUm_bad HR.out HZ.out (HXi.out.trans HXik.out)
   subst hzA
   have HPA0 := Lib.hid HPEA.out.symm; clear HPEA
   obtain ⟨hOA, hnA⟩ := HOIA.out rfl
   obtain rfl : nNA = n1A := (hnA.trans HNLA.out).symm
   have HOOA := Lib.hid (own_base_le hOA (Nat.zero_le _)); clear hOA hnA HOIA
   have HXiB := Lib.hid (HXi.out.trans HXik.out)
   have HBiB := Lib.hid (HBi.out.ext HXik.out)
   have HSiB := Lib.hid (HSi.out.ext HXik.out)
   have hxlB : xb < wkA.heap.size := HSiB.out.lt
   obtain ⟨bpX, opX, qB, hAP, hp0, hcB⟩ := HPS.out PB (by rw [HLP.out]; exact hPB)
   obtain ⟨rfl, rfl⟩ : bpA = bpX ∧ opA = opX := by injection hAP with hAP; injection hAP with e1 e2; exact ⟨e1, e2⟩
   have hpB := hp0.ext HXiB.out
   have HPCB := Lib.hid (fun W (h : Ext wkA W) => placedS_any qB (gPc s.ps PB) M W (hpB.ext h))
   have HNAB := Lib.hid hp0.n; have HNLB := Lib.hid hp0.ln
   obtain ⟨nmB, AEB, nEB, cEB, grB, ANB, nNB, cNB, ACB, nCB, cCB, AWB, nWB, cWB, mtB⟩ := qB
   obtain ⟨a0, a1, a2, a3, a4, a5, a6⟩ := hcB
   simp only [PcA.val] at HPCB HNAB HNLB a0 a1 a2 a3 a4 a5 a6
   clear hpB hp0
   replace a0 := HXiB.out.cell a0
   replace a1 := HXiB.out.cell a1
   replace a2 := HXiB.out.cell a2
   replace a3 := HXiB.out.cell a3
   replace a4 := HXiB.out.cell a4
   replace a5 := HXiB.out.cell a5
   replace a6 := HXiB.out.cell a6
   obtain ⟨c0, c1, c2, c3, c4, c5, c6⟩ := blk7 HBiB.out
   obtain ⟨x0, x1, x2, x3, x4, x5⟩ := blk6 HSiB.out
   obtain ⟨bmX, omX, hAM, m0⟩ := (HMS.out.ext HXiB.out).g (k := Z) (by rw [HLM.out]; exact hZ)
   obtain ⟨rfl, rfl⟩ : bm = bmX ∧ om = omX := by injection hAM with hAM; injection hAM with e1 e2; exact ⟨e1, e2⟩
   rw [HM.out] at m0
   have hPn : (PB : Int) < nP := by omega
   have hPn0 : (0 : Int) ≤ PB := by omega
   have hZn : (Z : Int) < nM := by omega
   have hZn0 : (0 : Int) ≤ Z := by omega
   go_upto_region 14 with fail
   go_cut [13] from 76 to 86 (fun pt wc => ∃ sb, pt = .pointer (some ⟨sb, 0, none⟩) ∧ Blk 104 wc sb [.slice ANB nNB cNB, .slice none 0 0, .int .i64 eb, .int .i64 LB] ∧ Ext wkA wc ∧ wkA.heap.size ≤ sb)
   case first =>
    have keep : ∀ W2 : World, Ext wkA W2 → (Ext wkA W2 ∧ W2.cell? ⟨w.heap.size, 3, none⟩ = some (.slice (some ⟨bpA, opA, none⟩) nP cP) ∧ W2.cell? ⟨xb, 2, none⟩ = some (.int .i64 (PB : Int)) ∧ W2.cell? ⟨xb, 3, none⟩ = some (.int .i64 eb) ∧ W2.cell? ⟨bpA, opA + PB * 7 + 3, none⟩ = some (.slice ANB nNB cNB)) := fun W2 hx => ⟨hx, hx.cell c3, hx.cell x2, hx.cell x3, hx.cell a3⟩
    have KEEP := Lib.hid keep; clear keep c0 c1 c2 c3 c4 c5 c6 x0 x1 x2 x3 x4 x5 a0 a1 a2 a3 a4 a5 a6 m0
    go_region_held3 (fun W => Ext wkA W ∧ W.cell? ⟨w.heap.size, 3, none⟩ = some (.slice (some ⟨bpA, opA, none⟩) nP cP) ∧ W.cell? ⟨xb, 2, none⟩ = some (.int .i64 (PB : Int)) ∧ W.cell? ⟨xb, 3, none⟩ = some (.int .i64 eb) ∧ W.cell? ⟨bpA, opA + PB * 7 + 3, none⟩ = some (.slice ANB nNB cNB))
     (first | (with_reducible assumption) | (with_reducible exact KEEP.out _ (Ext.drew (Ext.refl _))) | (with_reducible exact KEEP.out _ (Ext.drew (Ext.alloc (Ext.refl _) _))) | fail)
     (first | fail)
    all_goals
     go_wp2_with fail
     go_meet
    all_goals exact ⟨_, rfl, (Blk.new' rfl).ext ((Ext.refl _).drew), ((Ext.refl _).alloc _).drew, Nat.le_refl _⟩
   case rest =>
   obtain ⟨sbB, hsb, hBs, hxc, hslB⟩ := hcut
   subst hsb
   obtain ⟨wzB, hwzB⟩ : ∃ wzB : World, wzB = wc := ⟨_, rfl⟩
   subst hwzB
   have HBsB := Lib.hid hBs; have HXcB := Lib.hid hxc
   clear hBs hxc
   have b0 := HXcB.out.cell a0
   have b1 := HXcB.out.cell a1
   have b2 := HXcB.out.cell a2
   have b3 := HXcB.out.cell a3
   have b4 := HXcB.out.cell a4
   have b5 := HXcB.out.cell a5
   have b6 := HXcB.out.cell a6
   have d2 := HXcB.out.cell c2
   have d3 := HXcB.out.cell c3
   have y0 := HXcB.out.cell x2
   have n0 := HXcB.out.cell m0
   have l0 := cell_lt a0
   have l1 := cell_lt c2
   have l2 := cell_lt x0
   have l3 := cell_lt m0
   clear c0 c1 c2 c3 c4 c5 c6 x0 x1 x2 x3 x4 x5 a0 a1 a2 a3 a4 a5 a6 m0
   obtain ⟨PEB, hPEB⟩ : ∃ x, x = plE (gPc s.ps PB) M := ⟨_, rfl⟩
   have HPCz : Hid (∀ W, Ext wzB W → Calls Tryz.prog 47 #[.agg #[.string nmB, .slice AEB nEB cEB, .int .i64 grB, .slice ANB nNB cNB, .slice ACB nCB cCB, .slice AWB nWB cWB, .bool mtB], .int .i64 M] W fun e w' => ∃ A1 n1 c1, e = .returned (.tuple #[.slice A1 n1 c1, .int .i64 PEB]) ∧ (PEB = 0 → OwnI w' W.heap.size (.slice A1 n1 c1) (plL (gPc s.ps PB) M) ∧ n1 = (gPc s.ps PB).ns.length) ∧ Ext W w') := fun W h => by rw [hPEB]; exact HPCB.out W (HXcB.out.trans h)
   have HPEB := Lib.hid hPEB
   clear HPCB hPEB
   go_upto_region 15 with fail
   go_cut [11] from 87 to 102 (fun ev wc => ∃ A1 n1 c1, ev = .int .i64 PEB ∧ Blk 104 wc sbB [.slice ANB nNB cNB, .slice A1 n1 c1, .int .i64 eb, .int .i64 LB] ∧ (PEB = 0 → OwnI wc wzB.heap.size (.slice A1 n1 c1) (plL (gPc s.ps PB) M) ∧ n1 = (gPc s.ps PB).ns.length) ∧ Kept (fun j => j = sbB) wzB wc)
   case first =>
    have keep : ∀ W2 : World, Ext wzB W2 → (W2.cell? ⟨w.heap.size, 2, none⟩ = some (.slice (some ⟨bm, om, none⟩) nM cM) ∧ W2.cell? ⟨w.heap.size, 3, none⟩ = some (.slice (some ⟨bpA, opA, none⟩) nP cP) ∧ W2.cell? ⟨xb, 2, none⟩ = some (.int .i64 (PB : Int)) ∧ W2.cell? ⟨bm, om + Z, none⟩ = some (.int .i64 M) ∧ W2.cell? ⟨bpA, opA + PB * 7, none⟩ = some (.string nmB) ∧ W2.cell? ⟨bpA, opA + PB * 7 + 1, none⟩ = some (.slice AEB nEB cEB) ∧ W2.cell? ⟨bpA, opA + PB * 7 + 2, none⟩ = some (.int .i64 grB) ∧ W2.cell? ⟨bpA, opA + PB * 7 + 3, none⟩ = some (.slice ANB nNB cNB) ∧ W2.cell? ⟨bpA, opA + PB * 7 + 4, none⟩ = some (.slice ACB nCB cCB) ∧ W2.cell? ⟨bpA, opA + PB * 7 + 5, none⟩ = some (.slice AWB nWB cWB) ∧ W2.cell? ⟨bpA, opA + PB * 7 + 6, none⟩ = some (.bool mtB)) := fun W2 hx => ⟨hx.cell d2, hx.cell d3, hx.cell y0, hx.cell n0, hx.cell b0, hx.cell b1, hx.cell b2, hx.cell b3, hx.cell b4, hx.cell b5, hx.cell b6⟩
    have KEEP := Lib.hid keep
    have KSET : Hid (∀ (W2 : World) (u : Value), Ext wzB W2 → ((W2.setCell ⟨sbB, 1, none⟩ u).cell? ⟨w.heap.size, 2, none⟩ = some (.slice (some ⟨bm, om, none⟩) nM cM) ∧ (W2.setCell ⟨sbB, 1, none⟩ u).cell? ⟨w.heap.size, 3, none⟩ = some (.slice (some ⟨bpA, opA, none⟩) nP cP) ∧ (W2.setCell ⟨sbB, 1, none⟩ u).cell? ⟨xb, 2, none⟩ = some (.int .i64 (PB : Int)) ∧ (W2.setCell ⟨sbB, 1, none⟩ u).cell? ⟨bm, om + Z, none⟩ = some (.int .i64 M) ∧ (W2.setCell ⟨sbB, 1, none⟩ u).cell? ⟨bpA, opA + PB * 7, none⟩ = some (.string nmB) ∧ (W2.setCell ⟨sbB, 1, none⟩ u).cell? ⟨bpA, opA + PB * 7 + 1, none⟩ = some (.slice AEB nEB cEB) ∧ (W2.setCell ⟨sbB, 1, none⟩ u).cell? ⟨bpA, opA + PB * 7 + 2, none⟩ = some (.int .i64 grB) ∧ (W2.setCell ⟨sbB, 1, none⟩ u).cell? ⟨bpA, opA + PB * 7 + 3, none⟩ = some (.slice ANB nNB cNB) ∧ (W2.setCell ⟨sbB, 1, none⟩ u).cell? ⟨bpA, opA + PB * 7 + 4, none⟩ = some (.slice ACB nCB cCB) ∧ (W2.setCell ⟨sbB, 1, none⟩ u).cell? ⟨bpA, opA + PB * 7 + 5, none⟩ = some (.slice AWB nWB cWB) ∧ (W2.setCell ⟨sbB, 1, none⟩ u).cell? ⟨bpA, opA + PB * 7 + 6, none⟩ = some (.bool mtB))) := fun W2 u hx => by
     obtain ⟨k1, k2, k3, k4, k5, k6, k7, k8, k9, k10, k11⟩ := keep W2 hx
     have far : ∀ (b o : Nat) (v : Value), b < wkA.heap.size → W2.cell? ⟨b, o, none⟩ = some v → (W2.setCell ⟨sbB, 1, none⟩ u).cell? ⟨b, o, none⟩ = some v := fun b o v hb h => (World.cell?_setCell_far W2 ⟨sbB, 1, none⟩ ⟨b, o, none⟩ u (show sbB ≠ b by omega)).trans h
     exact ⟨far _ _ _ l1 k1, far _ _ _ l1 k2, far _ _ _ l2 k3, far _ _ _ l3 k4, far _ _ _ l0 k5, far _ _ _ l0 k6, far _ _ _ l0 k7, far _ _ _ l0 k8, far _ _ _ l0 k9, far _ _ _ l0 k10, far _ _ _ l0 k11⟩
    clear keep b0 b1 b2 b3 b4 b5 b6 d2 d3 y0 n0
    go_region_held3 (fun W => W.cell? ⟨w.heap.size, 2, none⟩ = some (.slice (some ⟨bm, om, none⟩) nM cM) ∧ W.cell? ⟨w.heap.size, 3, none⟩ = some (.slice (some ⟨bpA, opA, none⟩) nP cP) ∧ W.cell? ⟨xb, 2, none⟩ = some (.int .i64 (PB : Int)) ∧ W.cell? ⟨bm, om + Z, none⟩ = some (.int .i64 M) ∧ W.cell? ⟨bpA, opA + PB * 7, none⟩ = some (.string nmB) ∧ W.cell? ⟨bpA, opA + PB * 7 + 1, none⟩ = some (.slice AEB nEB cEB) ∧ W.cell? ⟨bpA, opA + PB * 7 + 2, none⟩ = some (.int .i64 grB) ∧ W.cell? ⟨bpA, opA + PB * 7 + 3, none⟩ = some (.slice ANB nNB cNB) ∧ W.cell? ⟨bpA, opA + PB * 7 + 4, none⟩ = some (.slice ACB nCB cCB) ∧ W.cell? ⟨bpA, opA + PB * 7 + 5, none⟩ = some (.slice AWB nWB cWB) ∧ W.cell? ⟨bpA, opA + PB * 7 + 6, none⟩ = some (.bool mtB))
     (first | (with_reducible exact KSET.out _ _ hx2) | (with_reducible assumption) | (with_reducible exact KEEP.out _ (Ext.drew (Ext.refl _))) | (with_reducible exact KEEP.out _ hx2) | fail)
     (first
      |(go_at_call 47; (with_reducible refine (HPCz.out wzB.drew (Ext.drew (Ext.refl _))).mono ?_); rintro e w2' ⟨A1, n1, c1, rfl, hOI, he2⟩; have hx2 : Ext wzB w2' := (Ext.drew (Ext.refl _)).trans he2; have hB1 := HBsB.out.ext hx2; have s1 : w2'.cell? ⟨sbB, 1, none⟩ = some (.slice none 0 0) := hB1.cell 1; have e1 := hB1.frozen 1; have HB1' := Lib.hid hB1; have HOI := Lib.hid hOI; clear hB1 hOI)
      |fail)
    all_goals
     go_wp2_with fail
     go_meet
    all_goals exact ⟨A1, n1, c1, rfl, HB1'.out.set 1 _, fun h => ⟨own_set (HOI.out h).1 (own_blk_ne (HOI.out h).1 HB1'.out (by decide)) _, (HOI.out h).2⟩, (hx2.kept (fun j => j = sbB)).set (.inr rfl) _⟩
   case rest =>
   obtain ⟨A1B, n1B, c1B, hev, hBs, hOI, hKc⟩ := hcut
   subst hev
   obtain ⟨wkB, hwkB⟩ : ∃ wkB : World, wkB = wc := ⟨_, rfl⟩
   subst hwkB
   clear b0 b1 b2 b3 b4 b5 b6 d2 d3 y0 n0 l0 l1 l2 l3
   have HBkB := Lib.hid hBs; have HOIB := Lib.hid hOI; have HKcB := Lib.hid hKc
   have HXikB := Lib.hid (show Ext wkA wkB from hKc.ext HXcB.out (fun j hj => by omega))
   clear hBs hOI hKc HPCz hPn hPn0 hZn hZn0
   by_cases hzB : PEB = 0
   rotate_left
   ·have HR : Hid (unmE s Z = PEB) := by
     show _ = _
     have e : seamE s Z k = PEB := by rw [HSE.out, if_neg (fun h => h rfl), if_neg (fun h => h HPA0.out), ← HPEB.out]
     rw [HUE.out, firstE_at hlt HT.out (by rw [e]; exact hzB), e]
    have hzb : (PEB != 0) = true := by simp [hzB]
    have HZ := Lib.hid hzB; clear hzB
    go_wp2_with fail
    go_ret2
    exact retUm_bad HR.out HZ.out (HXiB.out.trans HXikB.out)
   subst hzB
   have HPB0 := Lib.hid HPEB.out.symm; clear HPEB
   obtain ⟨hOB, hnB⟩ := HOIB.out rfl
   obtain rfl : nNB = n1B := (hnB.trans HNLB.out).symm
   have HOOB := Lib.hid (own_base_le hOB (Nat.zero_le _)); clear hOB hnB HOIB
   have HXwB := Lib.hid (HXiB.out.trans HXikB.out)
   have HU0 : Hid (Um2 wkB sbA sbB xb [.slice ANA nNA cNA, .slice A1A nNA c1A, .int .i64 ea, .int .i64 LA] [.slice ANB nNB cNB, .slice A1B nNB c1B, .int .i64 eb, .int .i64 LB] [.int .i64 PA, .int .i64 ea, .int .i64 PB, .int .i64 eb, .bool rv, .int .i64 es] (.slice A1A nNA c1A) (.slice A1B nNB c1B) (plL (gPc s.ps PA) M) (plL (gPc s.ps PB) M)) := ⟨HBkA.out.ext HXikB.out, HBkB.out, HSi.out.ext (HXik.out.trans HXikB.out), own_ext HOOA.out HXikB.out, HOOB.out⟩
   have HOKk := Lib.hid (own_ext HO.out ((HXr2.out.trans HXik.out).trans HXikB.out))
   have HX1k := Lib.hid ((HX2.out.trans HXik.out).trans HXikB.out)
   clear HXi HBi HSi HXik HXikB HBkA HBkB HOOA HOOB HBsA HBsB HXcA HXcB HKcA HKcB HXiB HBiB HSiB HSB HXr2 HX2 hslA hslB hxl HXw
   have POA := plE_zero.1 HPA0.out
   have POB := plE_zero.1 HPB0.out
   have HSE0 : Hid (seamE s Z k = 0) := by show _ = _; rw [HSE.out, if_neg (fun h => h rfl), if_neg (fun h => h HPA0.out)]; exact HPB0.out
   have HAL1 : Hid (∀ W, Ext w W → OwnI W 0 (.slice A1A nNA c1A) (plL (gPc s.ps PA) M) → OwnI W 0 (.slice A1B nNB c1B) (plL (gPc s.ps PB) M) → Calls Tryz.prog 48 #[.agg #[.slice ANA nNA cNA, .slice A1A nNA c1A, .int .i64 ea, .int .i64 LA], .agg #[.slice ANB nNB cNB, .slice A1B nNB c1B, .int .i64 eb, .int .i64 LB], .bool rv] W (RetAln W ⟨(gPc s.ps PA).ns, plL (gPc s.ps PA) M, ea, LA⟩ ⟨(gPc s.ps PB).ns, plL (gPc s.ps PB) M, eb, LB⟩ rv)) := fun W hX h1 h2 =>
    alone_any ⟨ANA, nNA, cNA, A1A, c1A⟩ ⟨ANB, nNB, cNB, A1B, c1B⟩ _ _ rv W (sd_at POA (HNAA.out.ext hX) HNLA.out h1) (sd_at POB (HNAB.out.ext hX) HNLB.out h2) (by show 0 ≤ LB; omega) (by show LB ≤ _; omega)
   have HAL2 : Hid (∀ W, Ext w W → OwnI W 0 (.slice A1A nNA c1A) (plL (gPc s.ps PA) M) → OwnI W 0 (.slice A1B nNB c1B) (plL (gPc s.ps PB) M) → Calls Tryz.prog 48 #[.agg #[.slice ANB nNB cNB, .slice A1B nNB c1B, .int .i64 eb, .int .i64 LB], .agg #[.slice ANA nNA cNA, .slice A1A nNA c1A, .int .i64 ea, .int .i64 LA], .bool rv] W (RetAln W ⟨(gPc s.ps PB).ns, plL (gPc s.ps PB) M, eb, LB⟩ ⟨(gPc s.ps PA).ns, plL (gPc s.ps PA) M, ea, LA⟩ rv)) := fun W hX h1 h2 =>
    alone_any ⟨ANB, nNB, cNB, A1B, c1B⟩ ⟨ANA, nNA, cNA, A1A, c1A⟩ _ _ rv W (sd_at POB (HNAB.out.ext hX) HNLB.out h2) (sd_at POA (HNAA.out.ext hX) HNLA.out h1) (by show 0 ≤ LA; omega) (by show LA ≤ _; omega)
   have HIS : Hid (seamIss s Z k = issK 1 k (alnL ⟨(gPc s.ps PA).ns, plL (gPc s.ps PA) M, ea, LA⟩ ⟨(gPc s.ps PB).ns, plL (gPc s.ps PB) M, eb, LB⟩ rv) ++ issK 2 k (alnL ⟨(gPc s.ps PB).ns, plL (gPc s.ps PB) M, eb, LB⟩ ⟨(gPc s.ps PA).ns, plL (gPc s.ps PA) M, ea, LA⟩ rv)) := by show _ = _; unfold seamIss; rw [HSA.out, HSBd.out, HSM.out]
   have HL1 : Hid ((alnL ⟨(gPc s.ps PA).ns, plL (gPc s.ps PA) M, ea, LA⟩ ⟨(gPc s.ps PB).ns, plL (gPc s.ps PB) M, eb, LB⟩ rv).length ≤ 16) := Nat.le_trans (alnTo_len _ _ _ _) POA.n
   have HL2 : Hid ((alnL ⟨(gPc s.ps PB).ns, plL (gPc s.ps PB) M, eb, LB⟩ ⟨(gPc s.ps PA).ns, plL (gPc s.ps PA) M, ea, LA⟩ rv).length ≤ 16) := Nat.le_trans (alnTo_len _ _ _ _) POB.n
   clear POA POB HSE HSA HSBd HPA0 HPB0 HNAA HNAB HNLA HNLB HSM
   obtain ⟨SA, hSA⟩ : ∃ SA : Sd, SA = ⟨(gPc s.ps PA).ns, plL (gPc s.ps PA) M, ea, LA⟩ := ⟨_, rfl⟩
   obtain ⟨SB, hSB⟩ : ∃ SB : Sd, SB = ⟨(gPc s.ps PB).ns, plL (gPc s.ps PB) M, eb, LB⟩ := ⟨_, rfl⟩
   rw [← hSA, ← hSB] at HAL1 HAL2 HIS HL1 HL2
   clear hSA hSB
   obtain ⟨L1, hL1⟩ : ∃ L1, alnL SA SB rv = L1 := ⟨_, rfl⟩
   obtain ⟨L2, hL2⟩ : ∃ L2, alnL SB SA rv = L2 := ⟨_, rfl⟩
   rw [hL1, hL2] at HIS
   rw [hL1] at HL1
   rw [hL2] at HL2
   have HE1 := Lib.hid hL1; have HE2 := Lib.hid hL2; clear hL1 hL2
   obtain ⟨f0, f1, f2, f3⟩ := blk4 HU0.out.a
   obtain ⟨g0, g1, g2, g3⟩ := blk4 HU0.out.b
   obtain ⟨x0, x1, x2, x3, x4, x5⟩ := blk6 HU0.out.x
   go_wp2_with fail
   refine (HAL1.out _ (HX1.out.trans HX1k.out) HU0.out.p HU0.out.q).mono ?_
   rintro e wa1 ⟨vL, rfl, hOL, heL⟩
   clear f0 f1 f2 f3 g0 g1 g2 g3 x0 x1 x2 x3 x4 x5
   rw [HE1.out] at hOL
   obtain ⟨AL1, cL1, hvL, _, _⟩ := OwnI.slice' (n := L1.length) hOL (castL_len _)
   subst hvL
   have HOL1 := Lib.hid (own_base_le hOL (Nat.zero_le _))
   have HU1 := Lib.hid (HU0.out.ext heL)
   have HOK1 := Lib.hid (own_ext HOKk.out heL)
   have HXn1 := Lib.hid (HX1k.out.trans heL)
   clear hOL heL
   go_wp2_with fail
   go_loopw [6, 112] (fun v i wr => ∃ j : Nat, j ≤ L1.length ∧ i = .int .i64 j ∧ OwnK wr w1.heap.size v (unmTo s Z k ++ issK 1 k (L1.take j)) ∧ Um2 wr sbA sbB xb [.slice ANA nNA cNA, .slice A1A nNA c1A, .int .i64 ea, .int .i64 LA] [.slice ANB nNB cNB, .slice A1B nNB c1B, .int .i64 eb, .int .i64 LB] [.int .i64 PA, .int .i64 ea, .int .i64 PB, .int .i64 eb, .bool rv, .int .i64 es] (.slice A1A nNA c1A) (.slice A1B nNB c1B) (plL (gPc s.ps PA) M) (plL (gPc s.ps PB) M) ∧ OwnI wr 0 (.slice AL1 L1.length cL1) (castL L1) ∧ Ext w1 wr) (fun _ i _ => L1.length - (intOf i).toNat)
   case atStart => exact ⟨0, Nat.zero_le _, rfl, by rw [List.take_zero, show issK 1 k [] = [] from rfl, List.append_nil]; exact HOK1.out, HU1.out, HOL1.out, HXn1.out⟩
   case round =>
   obtain ⟨j, hj, rfl, hoj, huj, holj, hxj⟩ := hrel
   have HOj1 := Lib.hid hoj; have HUj1 := Lib.hid huj; have HOLj1 := Lib.hid holj; have HXj1 := Lib.hid hxj; clear hoj huj holj hxj
   by_cases hlt1 : j < L1.length
   ·obtain ⟨bl, ol, hAL, q0⟩ := ((OwnI.plain HOLj1.out).2.1).g (k := j) (by rw [castL_len]; exact hlt1)
    subst hAL
    rw [castL_get hlt1] at q0
    have HTK := Lib.hid (issK_take (kind := 1) (k := k) hlt1)
    obtain ⟨nv, hnv⟩ : ∃ nv : Nat, nv = L1[j] := ⟨_, rfl⟩
    rw [← hnv] at q0 HTK
    clear hnv
    obtain ⟨LK, hLK⟩ : ∃ LK, LK = unmTo s Z k ++ issK 1 k (L1.take j) := ⟨_, rfl⟩
    have hlk : LK.length ≤ 40000 := by
     rw [hLK]
     have e0 := HLEN.out
     have e1 := HL1.out
     skip
     simp only [List.length_append, issK_len, List.length_take]
     omega
    rw [← hLK] at HOj1
    have HLT := Lib.hid hlt1
    have hj16 : j < 16 := Nat.lt_of_lt_of_le hlt1 HL1.out
    have HLKE := Lib.hid hLK; clear hLK
    have hjj : (j : Int) < (L1.length : Nat) := by omega
    have hjj0 : (0 : Int) ≤ j := by omega
    have hbb : w1.heap.size ≤ wr.heap.size := HXj1.out.size
    have H63 : Hid (LK.length + 1 ≤ maxLen) := by show _ ≤ _; unfold maxLen; omega
    have H64 : Hid ((LK.length + 1) * 24 ≤ 140737488355328) := by show _ ≤ _; omega
    have HC6 : Hid (w1.heap.size ≤ (wr.alloc (.cells #[.int .i64 1, .int .i64 (k : Int), .int .i64 (nv : Int)] 108)).heap.size) := by show _ ≤ _; simp; omega
    go_wp2_with (at_builtin; refine wpList_append_own _ rfl (.tmp 116) (.tmp 120) 64 rfl w1.heap.size 108 i0 (.agg #[.int .i64 0, .int .i64 0, .int .i64 0]) 3 24 Tryz.underlying64 hi0 hz0 hz1 hz2 rfl (by decide) _ LK.length (isscells LK) rfl (World.ownsRow.alloc HOj1.out _) ⟨wr.heap.size, 0, none⟩ 1 1 [.int .i64 1, .int .i64 (k : Int), .int .i64 (nv : Int)] rfl rfl (World.news_of_block (cs := #[.int .i64 1, .int .i64 (k : Int), .int .i64 (nv : Int)]) (t := 108) (fr := (0, 0)) (heap_alloc_new wr _)) (by simp [Value.oneCell']) H63.out H64.out HC6.out ?_)
    intro v' w4 hown' hgrow _
    have hO' : OwnK w4 w1.heap.size v' (unmTo s Z k ++ issK 1 k (L1.take (j + 1))) := by
     rw [HTK.out, ← List.append_assoc, ← HLKE.out]
     unfold OwnK
     rw [List.length_append, isscells_append]
     exact hown'
    have hx' : Ext w1 w4 := (HXj1.out.alloc _).grown hgrow (fun g hg => (World.ownsRow.lt HOj1.out g hg).1)
    have hu' := (HUj1.out.ext ((Ext.refl _).alloc _)).grown (World.ownsRow.alloc HOj1.out _) hgrow
    have hol' := own_grown (own_ext HOLj1.out ((Ext.refl _).alloc _)) (World.ownsRow.alloc HOj1.out _) (by decide) hgrow
    have HO' := Lib.hid hO'; have HU' := Lib.hid hu'; have HOL' := Lib.hid hol'; clear hO' hown' hgrow hu' hol'
    go_wp2_with fail
    go_roundw
    case rel => exact ⟨j + 1, HLT.out, by go_num, HO'.out, HU'.out, HOL'.out, hx'⟩
    case measure => have := HLT.out; simp [intOf]; omega
   obtain rfl : j = L1.length := by omega
   rw [List.take_length] at HOj1
   clear hlt1
   obtain ⟨f0, f1, f2, f3⟩ := blk4 HUj1.out.a
   obtain ⟨g0, g1, g2, g3⟩ := blk4 HUj1.out.b
   obtain ⟨x0, x1, x2, x3, x4, x5⟩ := blk6 HUj1.out.x
   go_wp2_with fail
   refine (HAL2.out _ (HX1.out.trans HXj1.out) HUj1.out.p HUj1.out.q).mono ?_
   rintro e wa2 ⟨vL, rfl, hOL, heL⟩
   clear f0 f1 f2 f3 g0 g1 g2 g3 x0 x1 x2 x3 x4 x5
   rw [HE2.out] at hOL
   obtain ⟨AL2, cL2, hvL, _, _⟩ := OwnI.slice' (n := L2.length) hOL (castL_len _)
   subst hvL
   have HOL2 := Lib.hid (own_base_le hOL (Nat.zero_le _))
   have HU2 := Lib.hid (HUj1.out.ext heL)
   have HOK2 := Lib.hid (own_ext HOj1.out heL)
   have HXn2 := Lib.hid (HXj1.out.trans heL)
   clear hOL heL
   go_wp2_with fail
   go_loopw [6, 129] (fun v i wr => ∃ j : Nat, j ≤ L2.length ∧ i = .int .i64 j ∧ OwnK wr w1.heap.size v (unmTo s Z k ++ issK 1 k L1 ++ issK 2 k (L2.take j)) ∧ Um2 wr sbA sbB xb [.slice ANA nNA cNA, .slice A1A nNA c1A, .int .i64 ea, .int .i64 LA] [.slice ANB nNB cNB, .slice A1B nNB c1B, .int .i64 eb, .int .i64 LB] [.int .i64 PA, .int .i64 ea, .int .i64 PB, .int .i64 eb, .bool rv, .int .i64 es] (.slice A1A nNA c1A) (.slice A1B nNB c1B) (plL (gPc s.ps PA) M) (plL (gPc s.ps PB) M) ∧ OwnI wr 0 (.slice AL2 L2.length cL2) (castL L2) ∧ Ext w1 wr) (fun _ i _ => L2.length - (intOf i).toNat)
   case atStart => exact ⟨0, Nat.zero_le _, rfl, by rw [List.take_zero, show issK 2 k [] = [] from rfl, List.append_nil]; exact HOK2.out, HU2.out, HOL2.out, HXn2.out⟩
   case round =>
   obtain ⟨j, hj, rfl, hoj, huj, holj, hxj⟩ := hrel
   have HOj2 := Lib.hid hoj; have HUj2 := Lib.hid huj; have HOLj2 := Lib.hid holj; have HXj2 := Lib.hid hxj; clear hoj huj holj hxj
   by_cases hlt2 : j < L2.length
   ·obtain ⟨bl, ol, hAL, q0⟩ := ((OwnI.plain HOLj2.out).2.1).g (k := j) (by rw [castL_len]; exact hlt2)
    subst hAL
    rw [castL_get hlt2] at q0
    have HTK := Lib.hid (issK_take (kind := 2) (k := k) hlt2)
    obtain ⟨nv, hnv⟩ : ∃ nv : Nat, nv = L2[j] := ⟨_, rfl⟩
    rw [← hnv] at q0 HTK
    clear hnv
    obtain ⟨LK, hLK⟩ : ∃ LK, LK = unmTo s Z k ++ issK 1 k L1 ++ issK 2 k (L2.take j) := ⟨_, rfl⟩
    have hlk : LK.length ≤ 40000 := by
     rw [hLK]
     have e0 := HLEN.out
     have e1 := HL1.out
     have e2 := HL2.out
     simp only [List.length_append, issK_len, List.length_take]
     omega
    rw [← hLK] at HOj2
    have HLT := Lib.hid hlt2
    have hj16 : j < 16 := Nat.lt_of_lt_of_le hlt2 HL2.out
    have HLKE := Lib.hid hLK; clear hLK
    have hjj : (j : Int) < (L2.length : Nat) := by omega
    have hjj0 : (0 : Int) ≤ j := by omega
    have hbb : w1.heap.size ≤ wr.heap.size := HXj2.out.size
    have H63 : Hid (LK.length + 1 ≤ maxLen) := by show _ ≤ _; unfold maxLen; omega
    have H64 : Hid ((LK.length + 1) * 24 ≤ 140737488355328) := by show _ ≤ _; omega
    have HC6 : Hid (w1.heap.size ≤ (wr.alloc (.cells #[.int .i64 2, .int .i64 (k : Int), .int .i64 (nv : Int)] 108)).heap.size) := by show _ ≤ _; simp; omega
    go_wp2_with (at_builtin; refine wpList_append_own _ rfl (.tmp 133) (.tmp 137) 64 rfl w1.heap.size 108 i0 (.agg #[.int .i64 0, .int .i64 0, .int .i64 0]) 3 24 Tryz.underlying64 hi0 hz0 hz1 hz2 rfl (by decide) _ LK.length (isscells LK) rfl (World.ownsRow.alloc HOj2.out _) ⟨wr.heap.size, 0, none⟩ 1 1 [.int .i64 2, .int .i64 (k : Int), .int .i64 (nv : Int)] rfl rfl (World.news_of_block (cs := #[.int .i64 2, .int .i64 (k : Int), .int .i64 (nv : Int)]) (t := 108) (fr := (0, 0)) (heap_alloc_new wr _)) (by simp [Value.oneCell']) H63.out H64.out HC6.out ?_)
    intro v' w4 hown' hgrow _
    have hO' : OwnK w4 w1.heap.size v' (unmTo s Z k ++ issK 1 k L1 ++ issK 2 k (L2.take (j + 1))) := by
     rw [HTK.out, ← List.append_assoc, ← HLKE.out]
     unfold OwnK
     rw [List.length_append, isscells_append]
     exact hown'
    have hx' : Ext w1 w4 := (HXj2.out.alloc _).grown hgrow (fun g hg => (World.ownsRow.lt HOj2.out g hg).1)
    have hu' := (HUj2.out.ext ((Ext.refl _).alloc _)).grown (World.ownsRow.alloc HOj2.out _) hgrow
    have hol' := own_grown (own_ext HOLj2.out ((Ext.refl _).alloc _)) (World.ownsRow.alloc HOj2.out _) (by decide) hgrow
    have HO' := Lib.hid hO'; have HU' := Lib.hid hu'; have HOL' := Lib.hid hol'; clear hO' hown' hgrow hu' hol'
    go_wp2_with fail
    go_roundw
    case rel => exact ⟨j + 1, HLT.out, by go_num, HO'.out, HU'.out, HOL'.out, hx'⟩
    case measure => have := HLT.out; simp [intOf]; omega
   obtain rfl : j = L2.length := by omega
   rw [List.take_length] at HOj2
   clear hlt2
   go_wp2_with fail
   go_roundw
   case rel =>
    refine ⟨k + 1, by omega, by go_num, firstE_succ HT.out HSE0.out, ?_, ?_, HXj2.out⟩
    ·rw [unmTo_succ, HIS.out, ← List.append_assoc]; exact HOj2.out
    ·rw [unmTo_succ, HIS.out]
     have e0 := HLEN.out
     have e1 := HL1.out
     have e2 := HL2.out
     simp only [List.length_append, issK_len]
     omega
   case measure => simp [intOf]; omega
  ·obtain rfl : k = nK := by omega
   go_wp2_with fail
   go_ret2
   have hE0 : unmE s Z = 0 := by rw [HUE.out]; exact HT.out
   refine ⟨_, by rw [hE0]; rfl, fun _ => ?_, fun h => absurd hE0 h, HXw.out⟩
   unfold unmL
   rw [HLK.out]
   exact own_base_le HO.out HX1.out.size
end Go.Proofs.YtfegbaokcbjllaaGreat
