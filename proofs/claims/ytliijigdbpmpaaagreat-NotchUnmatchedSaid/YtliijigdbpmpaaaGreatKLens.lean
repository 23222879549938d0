/- seam.isSize, isEdge, length, Lengths -/
import Derived.Deep.CutRange
import Derived.Test.YtliijigdbpmpaaaGreatKSty
import Derived.Test.YtliijigdbpmpaaaGreatKPlainA
namespace Go.Proofs.YtliijigdbpmpaaaGreat
open Go.RowKit
set_option maxRecDepth 100000 in
theorem isSize_any (a : StyA) (s : Sty) (z : Int) (w : World) (hs : StyAt w a s) :
    Calls Tryz.prog 40 #[a.val, .int .i64 z] w fun e w' => e = .returned (.bool (sizeB s z)) ∧ Ext w w' := by
  obtain ⟨nm, AS, nS, cS, AM, nM, cM, AP, nP, cP, AU, nU, cU, AK, nK, cK, AO, nO, cO⟩ := a
  have HL : Hid (s.ms.length = nM) := hs.lM
  clear hs
  simp only [StyA.val]
  by_cases h0 : 0 ≤ z
  · by_cases h1 : z < nM
    · go_enter Tryz.func40, Tryz.ntmps40
      go_wp2_with fail
      go_ret
      exact ⟨ret_bool (by symm; unfold sizeB; rw [HL.out]; exact decide_eq_true (by omega)), (Ext.refl _).alloc _⟩
    · go_enter Tryz.func40, Tryz.ntmps40
      go_wp2_with fail
      go_ret
      exact ⟨ret_bool (by symm; unfold sizeB; rw [HL.out]; exact decide_eq_false (by omega)), (Ext.refl _).alloc _⟩
  · go_enter Tryz.func40, Tryz.ntmps40
    go_wp2_with fail
    go_ret
    exact ⟨ret_bool (by symm; unfold sizeB; rw [HL.out]; exact decide_eq_false (by omega)), (Ext.refl _).alloc _⟩
set_option maxRecDepth 100000 in
set_option maxHeartbeats 800000 in
theorem isEdge_any (a : StyA) (s : Sty) (p q : Int) (w : World) (hs : StyAt w a s) :
    Calls Tryz.prog 41 #[a.val, .int .i64 p, .int .i64 q] w fun e w' => e = .returned (.bool (edgeB s p q)) ∧ Ext w w' := by
  obtain ⟨nm, AS, nS, cS, AM, nM, cM, AP, nP, cP, AU, nU, cU, AK, nK, cK, AO, nO, cO⟩ := a
  have HL : Hid (s.ps.length = nP) := hs.lP
  have HP := Lib.hid hs.P
  clear hs
  simp only [StyA.val] at HP ⊢
  by_cases h0 : 0 ≤ p
  · by_cases h1 : p < nP
    · by_cases h2 : 0 ≤ q
      · obtain ⟨k, rfl⟩ := Int.eq_ofNat_of_zero_le h0
        have hk : k < nP := by omega
        obtain ⟨b, off, pa, hA, hpc, hcc⟩ := (HP.out.ext ((Ext.refl w).alloc (.cells #[.string nm, .slice AS nS cS, .slice AM nM cM, .slice AP nP cP, .slice AU nU cU, .slice AK nK cK, .slice AO nO cO] 44))) k (by rw [HL.out]; exact hk)
        subst hA
        have c1 := hcc.c1
        obtain ⟨nE, hnE⟩ : ∃ n, n = pa.nE := ⟨_, rfl⟩
        rw [← hnE] at c1
        have HE : Hid ((gPc s.ps k).es.length = nE) := by show _ = _; rw [hnE]; exact hpc.le
        clear hpc hcc hnE
        by_cases h3 : q < nE
        · go_enter Tryz.func41, Tryz.ntmps41
          go_wp2_with fail
          go_ret
          exact ⟨ret_bool (by symm; unfold edgeB; rw [HL.out, Int.toNat_natCast, HE.out]; exact decide_eq_true (by omega)), (Ext.refl _).alloc _⟩
        · go_enter Tryz.func41, Tryz.ntmps41
          go_wp2_with fail
          go_ret
          exact ⟨ret_bool (by symm; unfold edgeB; rw [HL.out, Int.toNat_natCast, HE.out]; exact decide_eq_false (by omega)), (Ext.refl _).alloc _⟩
      · go_enter Tryz.func41, Tryz.ntmps41
        go_wp2_with fail
        go_ret
        exact ⟨ret_bool (by symm; unfold edgeB; rw [HL.out]; exact decide_eq_false (by omega)), (Ext.refl _).alloc _⟩
    · go_enter Tryz.func41, Tryz.ntmps41
      go_wp2_with fail
      go_ret
      exact ⟨ret_bool (by symm; unfold edgeB; rw [HL.out]; exact decide_eq_false (by omega)), (Ext.refl _).alloc _⟩
  · go_enter Tryz.func41, Tryz.ntmps41
    go_wp2_with fail
    go_ret
    exact ⟨ret_bool (by symm; unfold edgeB; rw [HL.out]; exact decide_eq_false (by omega)), (Ext.refl _).alloc _⟩
theorem graded_lines {es : List Edge} {cs : List Spot} {m : Int} (h : gradedR es cs m = 0) {k : Nat} (hk : k < es.length) : lcheck (gE (gradedE es cs m) k).2 = 0 :=
  ocheck_line ((gradedR_iff es cs m).1 h).ok' (by rw [gradedE_len]; exact hk)
set_option maxRecDepth 100000 in
set_option maxHeartbeats 800000 in
theorem slength_any (a : PcA) (p : Pc) (m : Int) (k : Nat) (w : World) (hp : PcAt w a p) (hk : k < p.es.length) :
    Calls Tryz.prog 42 #[a.val, .int .i64 m, .int .i64 (k : Int)] w fun e w' => e = .returned (.tuple #[.int .i64 (lnN p m k : Int), .int .i64 (gradedR p.es p.cs m)]) ∧ Ext w w' := by
  obtain ⟨nm, AE, nE, cE, gr, AN, nN, cN, AC, nC, cC, AW, nW, cW, mt⟩ := a
  obtain ⟨es, cs, ws, ns⟩ := p
  have HP := Lib.hid hp; clear hp
  simp only at hk
  have HLE : Hid (es.length = nE) := HP.out.le
  have HK := Lib.hid hk
  rw [HLE.out] at hk
  simp only [PcA.val]
  go_enter Tryz.func42, Tryz.ntmps42
  go_wp2_with fail
  refine (graded_any nm AE AN AC AW nE cE nN cN nC cC nW cW gr m mt es cs _ (HP.out.e.ext ((Ext.refl _).alloc _)) HP.out.le HP.out.ce HP.out.ce' (HP.out.c.ext ((Ext.refl _).alloc _)) HP.out.lc HP.out.nc).mono ?_
  rintro e w1 ⟨v1, rfl, hv, hv', he⟩
  have HX1 := Lib.hid (((Ext.refl w).alloc _).trans he); clear he
  have HLN : Hid (lnN ⟨es, cs, ws, ns⟩ m k = if gradedR es cs m ≠ 0 then 0 else lengthN (gE (gradedE es cs m) k).2) := rfl
  by_cases hz : gradedR es cs m = 0
  · have hO := hv hz
    have HLC := Lib.hid (graded_lines hz HK.out)
    obtain ⟨A1, c1, hvf, hE1, _, _⟩ := OwnE.slice' (n := nE) hO (by rw [gradedE_len]; exact HLE.out)
    subst hvf
    obtain ⟨b, off, L, cL, hA1, d0, d1, hS, _, _⟩ := hE1.g (k := k) (by rw [gradedE_len]; exact HK.out)
    subst hA1
    obtain ⟨l, hl⟩ : ∃ l, l = (gE (gradedE es cs m) k).2 := ⟨_, rfl⟩
    rw [← hl] at d1 hS HLN HLC
    rw [hz] at HLN ⊢
    have HZ := Lib.hid hz; have HSp := Lib.hid hS; clear hv hv' hz hO hE1 hS hl d0
    obtain ⟨n, hn⟩ : ∃ n, n = l.length := ⟨_, rfl⟩
    rw [← hn] at d1
    have HN := Lib.hid hn; clear hn
    go_wp2_with fail
    refine (length_any L n cL l _ HSp.out HN.out.symm).mono ?_
    rintro e w2 ⟨rfl, he2⟩
    rw [HLC.out]
    go_wp2_with fail
    go_ret2
    exact ⟨by rw [HLN.out, if_neg (by decide), HZ.out]; rfl, HX1.out.trans he2⟩
  · have hvf := hv' hz
    subst hvf
    have hzb : (gradedR es cs m != 0) = true := by simp [hz]
    obtain ⟨x, hx⟩ : ∃ x, x = gradedR es cs m := ⟨_, rfl⟩
    rw [← hx] at hz hzb HLN ⊢
    have HZ := Lib.hid hz; have HGX := Lib.hid hx; clear hv hv' hz hx
    go_wp2_with fail
    go_ret2
    exact ⟨by rw [HLN.out, if_pos HZ.out, ← HGX.out]; rfl, HX1.out⟩
/- what Lengths answers -/
theorem lens_1 {s : Sty} {z k : Int} (h : ¬ (sizeB s z = true ∧ 0 ≤ k ∧ k < s.ss.length)) : lensV s z k = (0, 0, 3) := by
  have e : lensE s z k = 3 := by unfold lensE; rw [if_pos h]
  unfold lensV; rw [e]; rfl
theorem lens_2 {s : Sty} {z k : Int} (h1 : sizeB s z = true ∧ 0 ≤ k ∧ k < s.ss.length) (h : ¬ (edgeB s (gSm s.ss k.toNat).pa (gSm s.ss k.toNat).ea = true ∧ edgeB s (gSm s.ss k.toNat).pb (gSm s.ss k.toNat).eb = true)) : lensV s z k = (0, 0, 3) := by
  have e : lensE s z k = 3 := by unfold lensE; rw [if_neg (fun hn => hn h1), if_pos h]
  unfold lensV; rw [e]; rfl
theorem lens_3 {s : Sty} {z k : Int} (h1 : sizeB s z = true ∧ 0 ≤ k ∧ k < s.ss.length) (h2 : edgeB s (gSm s.ss k.toNat).pa (gSm s.ss k.toNat).ea = true ∧ edgeB s (gSm s.ss k.toNat).pb (gSm s.ss k.toNat).eb = true)
    (h : gradedR (gPc s.ps (gSm s.ss k.toNat).pa.toNat).es (gPc s.ps (gSm s.ss k.toNat).pa.toNat).cs (gI s.ms z.toNat) ≠ 0) : lensV s z k = (0, 0, gradedR (gPc s.ps (gSm s.ss k.toNat).pa.toNat).es (gPc s.ps (gSm s.ss k.toNat).pa.toNat).cs (gI s.ms z.toNat)) := by
  have e := show lensE s z k = _ by unfold lensE; rw [if_neg (fun hn => hn h1), if_neg (fun hn => hn h2), if_pos h]
  unfold lensV; rw [e, if_pos h]
theorem lens_4 {s : Sty} {z k : Int} (h1 : sizeB s z = true ∧ 0 ≤ k ∧ k < s.ss.length) (h2 : edgeB s (gSm s.ss k.toNat).pa (gSm s.ss k.toNat).ea = true ∧ edgeB s (gSm s.ss k.toNat).pb (gSm s.ss k.toNat).eb = true)
    (h3 : gradedR (gPc s.ps (gSm s.ss k.toNat).pa.toNat).es (gPc s.ps (gSm s.ss k.toNat).pa.toNat).cs (gI s.ms z.toNat) = 0) (h : gradedR (gPc s.ps (gSm s.ss k.toNat).pb.toNat).es (gPc s.ps (gSm s.ss k.toNat).pb.toNat).cs (gI s.ms z.toNat) ≠ 0) : lensV s z k = (0, 0, gradedR (gPc s.ps (gSm s.ss k.toNat).pb.toNat).es (gPc s.ps (gSm s.ss k.toNat).pb.toNat).cs (gI s.ms z.toNat)) := by
  have e := show lensE s z k = _ by unfold lensE; rw [if_neg (fun hn => hn h1), if_neg (fun hn => hn h2), if_neg (fun hn => hn h3)]
  unfold lensV; rw [e, if_pos h]
theorem lens_5 {s : Sty} {z k : Int} (h1 : sizeB s z = true ∧ 0 ≤ k ∧ k < s.ss.length) (h2 : edgeB s (gSm s.ss k.toNat).pa (gSm s.ss k.toNat).ea = true ∧ edgeB s (gSm s.ss k.toNat).pb (gSm s.ss k.toNat).eb = true)
    (h3 : gradedR (gPc s.ps (gSm s.ss k.toNat).pa.toNat).es (gPc s.ps (gSm s.ss k.toNat).pa.toNat).cs (gI s.ms z.toNat) = 0) (h : gradedR (gPc s.ps (gSm s.ss k.toNat).pb.toNat).es (gPc s.ps (gSm s.ss k.toNat).pb.toNat).cs (gI s.ms z.toNat) = 0) : lensV s z k = (((lensA s z k : Nat) : Int), ((lensB s z k : Nat) : Int), 0) := by
  have e := show lensE s z k = _ by unfold lensE; rw [if_neg (fun hn => hn h1), if_neg (fun hn => hn h2), if_neg (fun hn => hn h3)]
  unfold lensV; rw [e, if_neg (fun hn => hn h)]
theorem edgeB_iff {s : Sty} {p e : Int} (h : edgeB s p e = true) : 0 ≤ p ∧ p < s.ps.length ∧ 0 ≤ e ∧ e < (gPc s.ps p.toNat).es.length := by
  unfold edgeB at h; exact of_decide_eq_true h
def LenV (x : Int × Int × Int) : Value := .tuple #[.int .i64 x.1, .int .i64 x.2.1, .int .i64 x.2.2]
end Go.Proofs.YtliijigdbpmpaaaGreat
