/- seam.Lengths -/
import Derived.Deep.CutRange
import Derived.Test.YtnfchkkokgmliaaKSty
import Derived.Test.YtnfchkkokgmliaaKPlainA
/- seam.isSize, isEdge, length, Lengths -/
namespace Go.Proofs.Ytnfchkkokgmliaa
open Go.RowKit
set_option maxRecDepth 100000 in
theorem isSize_any (a : StyA) (s : Sty) (z : Int) (w : World) (hs : StyAt w a s) :
    Calls Try.prog 22 #[a.val, .int .i64 z] w fun e w' => e = .returned (.bool (sizeB s z)) ∧ Ext w w' := by
  obtain ⟨nm, AS, nS, cS, AM, nM, cM, AP, nP, cP, AU, nU, cU, AK, nK, cK, AO, nO, cO⟩ := a
  have HL : Hid (s.ms.length = nM) := hs.lM
  clear hs
  simp only [StyA.val]
  by_cases h0 : 0 ≤ z
  · by_cases h1 : z < nM
    · go_enter Try.func22, Try.ntmps22
      go_wp2_with fail
      go_ret
      exact ⟨ret_bool (by symm; unfold sizeB; rw [HL.out]; exact decide_eq_true (by omega)), (Ext.refl _).alloc _⟩
    · go_enter Try.func22, Try.ntmps22
      go_wp2_with fail
      go_ret
      exact ⟨ret_bool (by symm; unfold sizeB; rw [HL.out]; exact decide_eq_false (by omega)), (Ext.refl _).alloc _⟩
  · go_enter Try.func22, Try.ntmps22
    go_wp2_with fail
    go_ret
    exact ⟨ret_bool (by symm; unfold sizeB; rw [HL.out]; exact decide_eq_false (by omega)), (Ext.refl _).alloc _⟩
set_option maxRecDepth 100000 in
set_option maxHeartbeats 800000 in
theorem isEdge_any (a : StyA) (s : Sty) (p q : Int) (w : World) (hs : StyAt w a s) :
    Calls Try.prog 23 #[a.val, .int .i64 p, .int .i64 q] w fun e w' => e = .returned (.bool (edgeB s p q)) ∧ Ext w w' := by
  obtain ⟨nm, AS, nS, cS, AM, nM, cM, AP, nP, cP, AU, nU, cU, AK, nK, cK, AO, nO, cO⟩ := a
  have HL : Hid (s.ps.length = nP) := hs.lP
  have HP := Lib.hid hs.P
  clear hs
  simp only [StyA.val] at HP ⊢
  by_cases h0 : 0 ≤ p
  · by_cases h1 : p < nP
    · by_cases h2 : 0 ≤ q
      · obtain ⟨k, rfl⟩ := Int.eq_ofNat_of_zero_le h0
        have hk : k < nP := by omega
        obtain ⟨b, off, pa, hA, hpc, hcc⟩ := (HP.out.ext ((Ext.refl w).alloc (.cells #[.string nm, .slice AS nS cS, .slice AM nM cM, .slice AP nP cP, .slice AU nU cU, .slice AK nK cK, .slice AO nO cO] 55))) k (by rw [HL.out]; exact hk)
        subst hA
        have c1 := hcc.c1
        obtain ⟨nE, hnE⟩ : ∃ n, n = pa.nE := ⟨_, rfl⟩
        rw [← hnE] at c1
        have HE : Hid ((gPc s.ps k).es.length = nE) := by show _ = _; rw [hnE]; exact hpc.le
        clear hpc hcc hnE
        by_cases h3 : q < nE
        · go_enter Try.func23, Try.ntmps23
          go_wp2_with fail
          go_ret
          exact ⟨ret_bool (by symm; unfold edgeB; rw [HL.out, Int.toNat_natCast, HE.out]; exact decide_eq_true (by omega)), (Ext.refl _).alloc _⟩
        · go_enter Try.func23, Try.ntmps23
          go_wp2_with fail
          go_ret
          exact ⟨ret_bool (by symm; unfold edgeB; rw [HL.out, Int.toNat_natCast, HE.out]; exact decide_eq_false (by omega)), (Ext.refl _).alloc _⟩
      · go_enter Try.func23, Try.ntmps23
        go_wp2_with fail
        go_ret
        exact ⟨ret_bool (by symm; unfold edgeB; rw [HL.out]; exact decide_eq_false (by omega)), (Ext.refl _).alloc _⟩
    · go_enter Try.func23, Try.ntmps23
      go_wp2_with fail
      go_ret
      exact ⟨ret_bool (by symm; unfold edgeB; rw [HL.out]; exact decide_eq_false (by omega)), (Ext.refl _).alloc _⟩
  · go_enter Try.func23, Try.ntmps23
    go_wp2_with fail
    go_ret
    exact ⟨ret_bool (by symm; unfold edgeB; rw [HL.out]; exact decide_eq_false (by omega)), (Ext.refl _).alloc _⟩
theorem graded_lines {es : List Edge} {cs : List Spot} {m : Int} (h : gradedR es cs m = 0) {k : Nat} (hk : k < es.length) : lcheck (gE (gradedE es cs m) k).2 = 0 :=
  ocheck_line ((gradedR_iff es cs m).1 h).ok' (by rw [gradedE_len]; exact hk)
set_option maxRecDepth 100000 in
set_option maxHeartbeats 800000 in
theorem slength_any (a : PcA) (p : Pc) (m : Int) (k : Nat) (w : World) (hp : PcAt w a p) (hk : k < p.es.length) :
    Calls Try.prog 24 #[a.val, .int .i64 m, .int .i64 (k : Int)] w fun e w' => e = .returned (.tuple #[.int .i64 (lnN p m k : Int), .int .i64 (gradedR p.es p.cs m)]) ∧ Ext w w' := by
  obtain ⟨nm, AE, nE, cE, gr, AN, nN, cN, AC, nC, cC, AW, nW, cW, mt⟩ := a
  obtain ⟨es, cs, ws, ns⟩ := p
  have HP := Lib.hid hp; clear hp
  simp only at hk
  have HLE : Hid (es.length = nE) := HP.out.le
  have HK := Lib.hid hk
  rw [HLE.out] at hk
  simp only [PcA.val]
  go_enter Try.func24, Try.ntmps24
  go_wp2_with fail
  refine (graded_any nm AE AN AC AW nE cE nN cN nC cC nW cW gr m mt es cs _ (HP.out.e.ext ((Ext.refl _).alloc _)) HP.out.le HP.out.ce HP.out.ce' (HP.out.c.ext ((Ext.refl _).alloc _)) HP.out.lc HP.out.nc).mono ?_
  rintro e w1 ⟨v1, rfl, hv, hv', he⟩
  have HX1 := Lib.hid (((Ext.refl w).alloc _).trans he); clear he
  have HLN : Hid (lnN ⟨es, cs, ws, ns⟩ m k = if gradedR es cs m ≠ 0 then 0 else lengthN (gE (gradedE es cs m) k).2) := rfl
  by_cases hz : gradedR es cs m = 0
  · have hO := hv hz
    have HLC := Lib.hid (graded_lines hz HK.out)
    obtain ⟨A1, c1, hvf, hE1, _, _⟩ := OwnE.slice' (n := nE) hO (by rw [gradedE_len]; exact HLE.out)
    subst hvf
    obtain ⟨b, off, L, cL, hA1, d0, d1, hS, _, _⟩ := hE1.g (k := k) (by rw [gradedE_len]; exact HK.out)
    subst hA1
    obtain ⟨l, hl⟩ : ∃ l, l = (gE (gradedE es cs m) k).2 := ⟨_, rfl⟩
    rw [← hl] at d1 hS HLN HLC
    rw [hz] at HLN ⊢
    have HZ := Lib.hid hz; have HSp := Lib.hid hS; clear hv hv' hz hO hE1 hS hl d0
    obtain ⟨n, hn⟩ : ∃ n, n = l.length := ⟨_, rfl⟩
    rw [← hn] at d1
    have HN := Lib.hid hn; clear hn
    go_wp2_with fail
    refine (length_any L n cL l _ HSp.out HN.out.symm).mono ?_
    rintro e w2 ⟨rfl, he2⟩
    rw [HLC.out]
    go_wp2_with fail
    go_ret2
    exact ⟨by rw [HLN.out, if_neg (by decide), HZ.out]; rfl, HX1.out.trans he2⟩
  · have hvf := hv' hz
    subst hvf
    have hzb : (gradedR es cs m != 0) = true := by simp [hz]
    obtain ⟨x, hx⟩ : ∃ x, x = gradedR es cs m := ⟨_, rfl⟩
    rw [← hx] at hz hzb HLN ⊢
    have HZ := Lib.hid hz; have HGX := Lib.hid hx; clear hv hv' hz hx
    go_wp2_with fail
    go_ret2
    exact ⟨by rw [HLN.out, if_pos HZ.out, ← HGX.out]; rfl, HX1.out⟩
/- what Lengths answers -/
theorem lens_1 {s : Sty} {z k : Int} (h : ¬ (sizeB s z = true ∧ 0 ≤ k ∧ k < s.ss.length)) : lensV s z k = (0, 0, 3) := by
  have e : lensE s z k = 3 := by unfold lensE; rw [if_pos h]
  unfold lensV; rw [e]; rfl
theorem lens_2 {s : Sty} {z k : Int} (h1 : sizeB s z = true ∧ 0 ≤ k ∧ k < s.ss.length) (h : ¬ (edgeB s (gSm s.ss k.toNat).pa (gSm s.ss k.toNat).ea = true ∧ edgeB s (gSm s.ss k.toNat).pb (gSm s.ss k.toNat).eb = true)) : lensV s z k = (0, 0, 3) := by
  have e : lensE s z k = 3 := by unfold lensE; rw [if_neg (fun hn => hn h1), if_pos h]
  unfold lensV; rw [e]; rfl
theorem lens_3 {s : Sty} {z k : Int} (h1 : sizeB s z = true ∧ 0 ≤ k ∧ k < s.ss.length) (h2 : edgeB s (gSm s.ss k.toNat).pa (gSm s.ss k.toNat).ea = true ∧ edgeB s (gSm s.ss k.toNat).pb (gSm s.ss k.toNat).eb = true)
    (h : gradedR (gPc s.ps (gSm s.ss k.toNat).pa.toNat).es (gPc s.ps (gSm s.ss k.toNat).pa.toNat).cs (gI s.ms z.toNat) ≠ 0) : lensV s z k = (0, 0, gradedR (gPc s.ps (gSm s.ss k.toNat).pa.toNat).es (gPc s.ps (gSm s.ss k.toNat).pa.toNat).cs (gI s.ms z.toNat)) := by
  have e := show lensE s z k = _ by unfold lensE; rw [if_neg (fun hn => hn h1), if_neg (fun hn => hn h2), if_pos h]
  unfold lensV; rw [e, if_pos h]
theorem lens_4 {s : Sty} {z k : Int} (h1 : sizeB s z = true ∧ 0 ≤ k ∧ k < s.ss.length) (h2 : edgeB s (gSm s.ss k.toNat).pa (gSm s.ss k.toNat).ea = true ∧ edgeB s (gSm s.ss k.toNat).pb (gSm s.ss k.toNat).eb = true)
    (h3 : gradedR (gPc s.ps (gSm s.ss k.toNat).pa.toNat).es (gPc s.ps (gSm s.ss k.toNat).pa.toNat).cs (gI s.ms z.toNat) = 0) (h : gradedR (gPc s.ps (gSm s.ss k.toNat).pb.toNat).es (gPc s.ps (gSm s.ss k.toNat).pb.toNat).cs (gI s.ms z.toNat) ≠ 0) : lensV s z k = (0, 0, gradedR (gPc s.ps (gSm s.ss k.toNat).pb.toNat).es (gPc s.ps (gSm s.ss k.toNat).pb.toNat).cs (gI s.ms z.toNat)) := by
  have e := show lensE s z k = _ by unfold lensE; rw [if_neg (fun hn => hn h1), if_neg (fun hn => hn h2), if_neg (fun hn => hn h3)]
  unfold lensV; rw [e, if_pos h]
theorem lens_5 {s : Sty} {z k : Int} (h1 : sizeB s z = true ∧ 0 ≤ k ∧ k < s.ss.length) (h2 : edgeB s (gSm s.ss k.toNat).pa (gSm s.ss k.toNat).ea = true ∧ edgeB s (gSm s.ss k.toNat).pb (gSm s.ss k.toNat).eb = true)
    (h3 : gradedR (gPc s.ps (gSm s.ss k.toNat).pa.toNat).es (gPc s.ps (gSm s.ss k.toNat).pa.toNat).cs (gI s.ms z.toNat) = 0) (h : gradedR (gPc s.ps (gSm s.ss k.toNat).pb.toNat).es (gPc s.ps (gSm s.ss k.toNat).pb.toNat).cs (gI s.ms z.toNat) = 0) : lensV s z k = (((lensA s z k : Nat) : Int), ((lensB s z k : Nat) : Int), 0) := by
  have e := show lensE s z k = _ by unfold lensE; rw [if_neg (fun hn => hn h1), if_neg (fun hn => hn h2), if_neg (fun hn => hn h3)]
  unfold lensV; rw [e, if_neg (fun hn => hn h)]
theorem edgeB_iff {s : Sty} {p e : Int} (h : edgeB s p e = true) : 0 ≤ p ∧ p < s.ps.length ∧ 0 ≤ e ∧ e < (gPc s.ps p.toNat).es.length := by
  unfold edgeB at h; exact of_decide_eq_true h
def LenV (x : Int × Int × Int) : Value := .tuple #[.int .i64 x.1, .int .i64 x.2.1, .int .i64 x.2.2]
end Go.Proofs.Ytnfchkkokgmliaa
namespace Go.Proofs.Ytnfchkkokgmliaa
open Go.RowKit
def RetLn (w : World) (s : Sty) (z k : Int) (e : Ending) (w' : World) : Prop := e = .returned (LenV (lensV s z k)) ∧ Ext w w'
theorem retLn {w w' : World} {s : Sty} {z k : Int} {x : Int × Int × Int} (h : lensV s z k = x) (he : Ext w w') : RetLn w s z k (.returned (.tuple #[.int .i64 x.1, .int .i64 x.2.1, .int .i64 x.2.2])) w' := ⟨by rw [h]; rfl, he⟩
theorem slength_int (a : PcA) (p : Pc) (m k : Int) (w : World) (hp : PcAt w a p) (h0 : 0 ≤ k) (hk : k < p.es.length) :
    Calls Try.prog 24 #[a.val, .int .i64 m, .int .i64 k] w fun e w' => e = .returned (.tuple #[.int .i64 (lnN p m k.toNat : Int), .int .i64 (gradedR p.es p.cs m)]) ∧ Ext w w' := by
  obtain ⟨j, rfl⟩ := Int.eq_ofNat_of_zero_le h0
  exact slength_any a p m j w hp (by omega)
set_option maxRecDepth 100000 in
set_option maxHeartbeats 3200000 in
theorem lengths_any (a : StyA) (s : Sty) (z k : Int) (w : World) (hs : StyAt w a s) :
    Calls Try.prog 10 #[a.val, .int .i64 z, .int .i64 k] w (RetLn w s z k) := by
  have HS := Lib.hid hs; clear hs
  have HC := Lib.hid (fun W (h : Ext w W) => isSize_any a s z W (HS.out.ext h))
  have HD := Lib.hid (fun p q W (h : Ext w W) => isEdge_any a s p q W (HS.out.ext h))
  obtain ⟨nm, AS, nS, cS, AM, nM, cM, AP, nP, cP, AU, nU, cU, AK, nK, cK, AO, nO, cO⟩ := a
  have HLM : Hid (s.ms.length = nM) := HS.out.lM
  have HLP : Hid (s.ps.length = nP) := HS.out.lP
  have HLK : Hid (s.ss.length = nK) := HS.out.lK
  have hbM : nM ≤ 9223372036854775807 := HS.out.bM
  have hbP : nP ≤ 9223372036854775807 := HS.out.bP
  have hbK : nK ≤ 9223372036854775807 := HS.out.bK
  simp only [StyA.val] at HC HD ⊢
  go_enter Try.func10, Try.ntmps10
  go_wp2_with fail
  refine (HC.out _ ((Ext.refl _).alloc _)).mono ?_
  rintro e w1 ⟨rfl, he1⟩
  have HB1 : Hid (Blk 55 w1 w.heap.size [.string nm, .slice AS nS cS, .slice AM nM cM, .slice AP nP cP, .slice AU nU cU, .slice AK nK cK, .slice AO nO cO]) := (Blk.new' rfl).ext he1
  have HX1 := Lib.hid (((Ext.refl w).alloc _).trans he1)
  clear he1
  cases hsz : sizeB s z
  · have HR := Lib.hid (lens_1 (s := s) (z := z) (k := k) (fun h => by rw [hsz] at h; cases h.1))
    clear hsz
    go_wp2_with fail
    refine bodyPost_ret (v := .tuple #[.int .i64 0, .int .i64 0, .int .i64 3]) (by simp [results, Try.results10, go_sem]) rfl ?_
    exact ⟨by rw [HR.out]; rfl, HX1.out⟩
  by_cases hk0 : k < 0
  · have HR := Lib.hid (lens_1 (s := s) (z := z) (k := k) (fun h => by omega))
    clear hsz
    go_wp2_with fail
    refine bodyPost_ret (v := .tuple #[.int .i64 0, .int .i64 0, .int .i64 3]) (by simp [results, Try.results10, go_sem]) rfl ?_
    exact ⟨by rw [HR.out]; rfl, HX1.out⟩
  obtain ⟨c0, c1, c2, c3, c4, c5, c6⟩ := blk7 HB1.out
  by_cases hk1 : (nK : Int) ≤ k
  · have HR := Lib.hid (lens_1 (s := s) (z := z) (k := k) (fun h => by rw [HLK.out] at h; omega))
    clear hsz
    go_wp2_with fail
    refine bodyPost_ret (v := .tuple #[.int .i64 0, .int .i64 0, .int .i64 3]) (by simp [results, Try.results10, go_sem]) rfl ?_
    exact ⟨by rw [HR.out]; rfl, HX1.out⟩
  obtain ⟨K, rfl⟩ := Int.eq_ofNat_of_zero_le (show 0 ≤ k by omega)
  have hK : K < nK := by omega
  have HH1 : Hid (sizeB s z = true ∧ 0 ≤ (K : Int) ∧ (K : Int) < s.ss.length) := ⟨hsz, by omega, by rw [HLK.out]; omega⟩
  have hz2 : 0 ≤ z ∧ z < nM := by
    unfold sizeB at hsz
    have := of_decide_eq_true hsz
    rw [HLM.out] at this; exact this
  clear hsz hk0 hk1
  obtain ⟨Z, rfl⟩ := Int.eq_ofNat_of_zero_le hz2.1
  have hZ : Z < nM := by omega
  clear hz2
  obtain ⟨bk, ok, hAK, hsm⟩ := (HS.out.K.ext HX1.out) K (by rw [HLK.out]; exact hK)
  simp only at hAK
  subst hAK
  obtain ⟨sm, hsmd⟩ : ∃ sm, sm = gSm s.ss K := ⟨_, rfl⟩
  rw [← hsmd] at hsm
  have HSM := Lib.hid hsmd; clear hsmd
  obtain ⟨pa, ea, pb, eb, rv, es⟩ := sm
  obtain ⟨k0, k1, k2, k3, k4, k5⟩ := hsm
  simp only at k0 k1 k2 k3 k4 k5
  have hpl : w.heap.size < w1.heap.size := HB1.out.lt
  have hxl : Ext w1 (w1.alloc (.cells #[.int .i64 pa, .int .i64 ea, .int .i64 pb, .int .i64 eb, .bool rv, .int .i64 es] 73)) := (Ext.refl _).alloc _
  have HXL := Lib.hid hxl; clear hxl
  go_wp2_with fail
  refine (HD.out pa ea _ (HX1.out.trans HXL.out)).mono ?_
  rintro e w2 ⟨rfl, he2⟩
  have HSB : Hid (Blk 73 w2 w1.heap.size [.int .i64 pa, .int .i64 ea, .int .i64 pb, .int .i64 eb, .bool rv, .int .i64 es]) := (Blk.new' rfl).ext he2
  have HB2 := Lib.hid ((HB1.out.ext HXL.out).ext he2)
  have HX2 := Lib.hid ((HX1.out.trans HXL.out).trans he2)
  clear he2 HXL c0 c1 c2 c3 c4 c5 c6 k0 k1 k2 k3 k4 k5 hpl
  have HSP : Hid ((gSm s.ss (K : Int).toNat).pa = pa ∧ (gSm s.ss (K : Int).toNat).ea = ea ∧ (gSm s.ss (K : Int).toNat).pb = pb ∧ (gSm s.ss (K : Int).toNat).eb = eb) := by
    show _ ∧ _
    rw [Int.toNat_natCast, ← HSM.out]; exact ⟨rfl, rfl, rfl, rfl⟩
  obtain ⟨c0, c1, c2, c3, c4, c5, c6⟩ := blk7 HB2.out
  obtain ⟨k0, k1, k2, k3, k4, k5⟩ := blk6 HSB.out
  cases hea : edgeB s pa ea
  · have HR := Lib.hid (lens_2 HH1.out (fun h => by rw [HSP.out.1, HSP.out.2.1, hea] at h; cases h.1))
    clear hea
    go_wp2_with fail
    refine bodyPost_ret (v := .tuple #[.int .i64 0, .int .i64 0, .int .i64 3]) (by simp [results, Try.results10, go_sem]) rfl ?_
    exact ⟨by rw [HR.out]; rfl, HX2.out⟩
  have HEA := Lib.hid hea; clear hea
  go_wp2_with fail
  refine (HD.out pb eb _ HX2.out).mono ?_
  rintro e w3 ⟨rfl, he3⟩
  have HB3 := Lib.hid (HB2.out.ext he3); have HSB3 := Lib.hid (HSB.out.ext he3); have HX3 := Lib.hid (HX2.out.trans he3)
  clear he3 c0 c1 c2 c3 c4 c5 c6 k0 k1 k2 k3 k4 k5
  obtain ⟨c0, c1, c2, c3, c4, c5, c6⟩ := blk7 HB3.out
  obtain ⟨k0, k1, k2, k3, k4, k5⟩ := blk6 HSB3.out
  cases heb : edgeB s pb eb
  · have HR := Lib.hid (lens_2 HH1.out (fun h => by rw [HSP.out.2.2.1, HSP.out.2.2.2, heb] at h; cases h.2))
    clear heb
    go_wp2_with fail
    refine bodyPost_ret (v := .tuple #[.int .i64 0, .int .i64 0, .int .i64 3]) (by simp [results, Try.results10, go_sem]) rfl ?_
    exact ⟨by rw [HR.out]; rfl, HX3.out⟩
  have HH2 : Hid (edgeB s (gSm s.ss (K : Int).toNat).pa (gSm s.ss (K : Int).toNat).ea = true ∧ edgeB s (gSm s.ss (K : Int).toNat).pb (gSm s.ss (K : Int).toNat).eb = true) := by
    show _ ∧ _
    rw [HSP.out.1, HSP.out.2.1, HSP.out.2.2.1, HSP.out.2.2.2]; exact ⟨HEA.out, heb⟩
  obtain ⟨qa0, qa1, qa2, qa3⟩ := edgeB_iff HEA.out
  obtain ⟨qb0, qb1, qb2, qb3⟩ := edgeB_iff heb
  clear heb HEA
  obtain ⟨PA, rfl⟩ := Int.eq_ofNat_of_zero_le qa0
  obtain ⟨PB, rfl⟩ := Int.eq_ofNat_of_zero_le qb0
  rw [HLP.out] at qa1 qb1
  rw [Int.toNat_natCast] at qa3 qb3
  have hPA : PA < nP := by omega
  have hPB : PB < nP := by omega
  obtain ⟨M, hM⟩ : ∃ M, M = gI s.ms Z := ⟨_, rfl⟩
  obtain ⟨RA, hRA⟩ : ∃ x, x = gradedR (gPc s.ps PA).es (gPc s.ps PA).cs M := ⟨_, rfl⟩
  obtain ⟨RB, hRB⟩ : ∃ x, x = gradedR (gPc s.ps PB).es (gPc s.ps PB).cs M := ⟨_, rfl⟩
  obtain ⟨LA, hLA⟩ : ∃ x, x = lnN (gPc s.ps PA) M ea.toNat := ⟨_, rfl⟩
  obtain ⟨LB, hLB⟩ : ∃ x, x = lnN (gPc s.ps PB) M eb.toNat := ⟨_, rfl⟩
  have HRA : Hid (gradedR (gPc s.ps (gSm s.ss (K : Int).toNat).pa.toNat).es (gPc s.ps (gSm s.ss (K : Int).toNat).pa.toNat).cs (gI s.ms (Z : Int).toNat) = RA) := by show _ = _; rw [HSP.out.1, Int.toNat_natCast, Int.toNat_natCast, hRA, hM]
  have HRB : Hid (gradedR (gPc s.ps (gSm s.ss (K : Int).toNat).pb.toNat).es (gPc s.ps (gSm s.ss (K : Int).toNat).pb.toNat).cs (gI s.ms (Z : Int).toNat) = RB) := by show _ = _; rw [HSP.out.2.2.1, Int.toNat_natCast, Int.toNat_natCast, hRB, hM]
  have HLA : Hid (lensA s Z K = LA) := by show _ = _; unfold lensA; rw [HSP.out.1, HSP.out.2.1, Int.toNat_natCast, Int.toNat_natCast, hLA, hM]
  have HLB : Hid (lensB s Z K = LB) := by show _ = _; unfold lensB; rw [HSP.out.2.2.1, HSP.out.2.2.2, Int.toNat_natCast, Int.toNat_natCast, hLB, hM]
  obtain ⟨bm, om, hAM, m0⟩ := (HS.out.M.ext HX3.out).g (k := Z) (by rw [HLM.out]; exact hZ)
  simp only at hAM
  subst hAM
  rw [← hM] at m0
  have HPS := Lib.hid HS.out.P
  simp only at HPS
  obtain ⟨bp, op, qa, hAP, hpA, hcA⟩ := (HPS.out.ext HX3.out) PA (by rw [HLP.out]; exact hPA)
  subst hAP
  have HCA : Hid (∀ W, Ext w3 W → Calls Try.prog 24 #[qa.val, .int .i64 M, .int .i64 ea] W fun e w' => e = .returned (.tuple #[.int .i64 (LA : Int), .int .i64 RA]) ∧ Ext W w') := fun W h => by
    rw [hLA, hRA]; exact slength_int qa (gPc s.ps PA) M ea W (hpA.ext h) qa2 qa3
  have HCB : Hid (∀ (qb : PcA) W, PcAt W qb (gPc s.ps PB) → Calls Try.prog 24 #[qb.val, .int .i64 M, .int .i64 eb] W fun e w' => e = .returned (.tuple #[.int .i64 (LB : Int), .int .i64 RB]) ∧ Ext W w') := fun qb W h => by
    rw [hLB, hRB]; exact slength_int qb (gPc s.ps PB) M eb W h qb2 qb3
  clear hpA hRA hRB hLA hLB hM
  obtain ⟨pnm, pAE, pnE, pcE, pgr, pAN, pnN, pcN, pAC, pnC, pcC, pAW, pnW, pcW, pmt⟩ := qa
  obtain ⟨a0, a1, a2, a3, a4, a5, a6⟩ := hcA
  simp only [PcA.val] at HCA a0 a1 a2 a3 a4 a5 a6
  have z0 := fun z : After w3 => After.cell c3 z
  have z1 := fun z : After w3 => After.cell c2 z
  have z2 := fun z : After w3 => After.cell k0 z
  have z3 := fun z : After w3 => After.cell k1 z
  have z4 := fun z : After w3 => After.cell m0 z
  have y0 := fun z : After w3 => After.cell a0 z
  have y1 := fun z : After w3 => After.cell a1 z
  have y2 := fun z : After w3 => After.cell a2 z
  have y3 := fun z : After w3 => After.cell a3 z
  have y4 := fun z : After w3 => After.cell a4 z
  have y5 := fun z : After w3 => After.cell a5 z
  have y6 := fun z : After w3 => After.cell a6 z
  clear qa0 qa1 qa2 qa3 qb0 qb1 qb2 qb3
  go_wp2_with fail
  refine region_ext (by kernel_rfl) (by kernel_rfl) ?_
  repeat (first | go_big_quiet_step ((go_at_call 24; exact after_call (HCA.out _ (After.ext _)))) | (go_big_quiet_want; go_simp; go_big_quiet_on))
  refine wpQuiet_nil ?_
  rintro w4 ⟨⟨_, he4⟩, rfl⟩
  clear z0 z1 z2 z3 z4 y0 y1 y2 y3 y4 y5 y6 a0 a1 a2 a3 a4 a5 a6 c0 c1 c2 c3 c4 c5 c6 k0 k1 k2 k3 k4 k5
  have HB4 := Lib.hid (HB3.out.ext he4); have HSB4 := Lib.hid (HSB3.out.ext he4); have HX4 := Lib.hid (HX3.out.trans he4); have m4 := he4.cell m0
  clear he4 m0 HCA
  obtain ⟨c0, c1, c2, c3, c4, c5, c6⟩ := blk7 HB4.out
  obtain ⟨k0, k1, k2, k3, k4, k5⟩ := blk6 HSB4.out
  by_cases hra : RA = 0
  rotate_left
  · have HR := Lib.hid (lens_3 HH1.out HH2.out (by rw [HRA.out]; exact hra))
    rw [HRA.out] at HR
    have hrb : (RA != 0) = true := by simp [hra]
    clear hra
    go_wp2_with fail
    refine bodyPost_ret (v := .tuple #[.int .i64 0, .int .i64 0, .int .i64 RA]) (by simp [results, Try.results10, go_sem]) rfl ?_
    exact ⟨by rw [HR.out]; rfl, HX4.out⟩
  subst hra
  obtain ⟨bp', op', qb, hAP, hpB, hcB⟩ := (HPS.out.ext HX4.out) PB (by rw [HLP.out]; exact hPB)
  injection hAP with hAP
  injection hAP with e1 e2
  subst e1; subst e2
  have HCB' := Lib.hid (fun W (h : Ext w4 W) => HCB.out qb W (hpB.ext h))
  clear hpB HCB
  obtain ⟨pnm, pAE, pnE, pcE, pgr, pAN, pnN, pcN, pAC, pnC, pcC, pAW, pnW, pcW, pmt⟩ := qb
  obtain ⟨a0, a1, a2, a3, a4, a5, a6⟩ := hcB
  simp only [PcA.val] at HCB' a0 a1 a2 a3 a4 a5 a6
  have z0 := fun z : After w4 => After.cell c3 z
  have z1 := fun z : After w4 => After.cell c2 z
  have z2 := fun z : After w4 => After.cell k2 z
  have z3 := fun z : After w4 => After.cell k3 z
  have z4 := fun z : After w4 => After.cell m4 z
  have y0 := fun z : After w4 => After.cell a0 z
  have y1 := fun z : After w4 => After.cell a1 z
  have y2 := fun z : After w4 => After.cell a2 z
  have y3 := fun z : After w4 => After.cell a3 z
  have y4 := fun z : After w4 => After.cell a4 z
  have y5 := fun z : After w4 => After.cell a5 z
  have y6 := fun z : After w4 => After.cell a6 z
  go_wp2_with fail
  refine region_ext (by kernel_rfl) (by kernel_rfl) ?_
  repeat (first | go_big_quiet_step ((go_at_call 24; exact after_call (HCB'.out _ (After.ext _)))) | (go_big_quiet_want; go_simp; go_big_quiet_on))
  refine wpQuiet_nil ?_
  rintro w5 ⟨⟨_, he5⟩, rfl⟩
  clear z0 z1 z2 z3 z4 y0 y1 y2 y3 y4 y5 y6 a0 a1 a2 a3 a4 a5 a6 c0 c1 c2 c3 c4 c5 c6 k0 k1 k2 k3 k4 k5 m4
  have HX5 := Lib.hid (HX4.out.trans he5); clear he5 HCB'
  by_cases hrb : RB = 0
  rotate_left
  · have HR := Lib.hid (lens_4 HH1.out HH2.out HRA.out (by rw [HRB.out]; exact hrb))
    rw [HRB.out] at HR
    have hrb' : (RB != 0) = true := by simp [hrb]
    clear hrb
    go_wp2_with fail
    refine bodyPost_ret (v := .tuple #[.int .i64 0, .int .i64 0, .int .i64 RB]) (by simp [results, Try.results10, go_sem]) rfl ?_
    exact ⟨by rw [HR.out]; rfl, HX5.out⟩
  subst hrb
  have HR := Lib.hid (lens_5 HH1.out HH2.out HRA.out HRB.out)
  rw [HLA.out, HLB.out] at HR
  go_wp2_with fail
  refine bodyPost_ret (v := .tuple #[.int .i64 (LA : Int), .int .i64 (LB : Int), .int .i64 0]) (by simp [results, Try.results10, go_sem]) rfl ?_
  exact ⟨by rw [HR.out]; rfl, HX5.out⟩
end Go.Proofs.Ytnfchkkokgmliaa
