/- NotchKeeps returns true -/
import Derived.Deep.CutRange
import Derived.Test.YtliijigdbpmpaaaKAwake
/- R21.Light, said of a piece -/
namespace Go.Proofs.Ytliijigdbpmpaaa
open Go.RowKit
structure LtP (p : Pc) (most : Nat) : Prop where
  e : p.es.length ≤ 20
  c : p.cs.length ≤ 20
  w : p.ws.length ≤ 20
  n : p.ns.length ≤ 20
  l : ∀ k, k < p.es.length → (gE p.es k).2.length ≤ most ∧ (gE p.es k).1.size ≤ 100
theorem lightP_any (a : PcA) (p : Pc) (most : Nat) (hm : most ≤ 1000) (w : World) (hp : PcAt w a p) :
    Calls Try.prog 26 #[a.val, .int .i64 (most : Int)] w fun e w' => ∃ b, e = .returned (.bool b) ∧ Ext w w' ∧ (b = true → LtP p most) :=
  (light_any a.nm a.AE a.AN a.AC a.AW a.nE a.cE a.nN a.cN a.nC a.cC a.nW a.cW a.gr a.mt p.es w most hm hp.e hp.le).mono fun e w' ⟨b, h1, h2, h3⟩ => ⟨b, h1, h2, fun hb => by
    obtain ⟨g1, g2, g3, g4, g5⟩ := h3 hb
    exact ⟨g1, by rw [hp.lc]; exact g2, by rw [hp.li]; exact g3, by rw [hp.ln]; exact g4, g5⟩⟩
end Go.Proofs.Ytliijigdbpmpaaa
/- garmentref23.Light -/
namespace Go.Proofs.Ytliijigdbpmpaaa
open Go.RowKit
def RetL3 (w : World) (p : Pc) (e : Ending) (w' : World) : Prop := ∃ b, e = .returned (.bool b) ∧ Ext w w' ∧ (b = true → LtP p 60)
set_option maxRecDepth 100000 in
set_option maxHeartbeats 1600000 in
theorem light3_any (a : PcA) (p : Pc) (w : World) (hp : PcAt w a p) :
    Calls Try.prog 9 #[a.val] w (RetL3 w p) := by
  have HL := Lib.hid (fun W (h : Ext w W) => lightP_any a p 60 (by omega) W (hp.ext h))
  clear hp
  obtain ⟨nm, AE, nE, cE, gr, AN, nN, cN, AC, nC, cC, AW, nW, cW, mt⟩ := a
  simp only [PcA.val] at HL ⊢
  go_enter Try.func9, Try.ntmps9
  go_wp2_with fail
  refine (HL.out _ ((Ext.refl _).alloc _)).mono ?_
  rintro e w1 ⟨b, rfl, he, hb⟩
  have HX := Lib.hid (((Ext.refl w).alloc _).trans he); have HB := Lib.hid hb
  clear he hb
  go_wp2_with fail
  go_ret
  exact ⟨b, rfl, HX.out, HB.out⟩
end Go.Proofs.Ytliijigdbpmpaaa
namespace Go.Proofs.Ytliijigdbpmpaaa
open Go.RowKit
theorem IntsAt.at1 {w : World} {b off : Nat} {l : List Int} (h : IntsAt w (some ⟨b, off, none⟩) l) {k : Nat} (hk : k < l.length) : w.cell? ⟨b, off + k, none⟩ = some (.int .i64 (gI l k)) := by
  obtain ⟨b', off', e, h0⟩ := h.g hk
  injection e with e; injection e with e1 e2
  subst e1; subst e2
  exact h0
set_option maxRecDepth 100000 in
set_option maxHeartbeats 6400000 in
theorem keepsL_any (a : PcA) (p : Pc) (m : Int) (w : World) (hp : PcAt w a p) :
    Calls Try.prog 3 #[a.val, .int .i64 m] w fun e w' => e = .returned (.bool true) ∧ Ext w w' := by
  have HP := Lib.hid hp; clear hp
  have H1 := Lib.hid (fun W (h : Ext w W) => light3_any a p W (HP.out.ext h))
  have H2 := Lib.hid (fun M W (h : Ext w W) => placedX_any a p M W (HP.out.ext h))
  have H3 := Lib.hid (fun W (h : Ext w W) => graded_any a.nm a.AE a.AN a.AC a.AW a.nE a.cE a.nN a.cN a.nC a.cC a.nW a.cW a.gr m a.mt p.es p.cs W (HP.out.e.ext h) HP.out.le HP.out.ce HP.out.ce' (HP.out.c.ext h) HP.out.lc HP.out.nc)
  have HLE : Hid (p.es.length = a.nE) := HP.out.le
  have HLN : Hid (p.ns.length = a.nN) := HP.out.ln
  have HN : Hid (SpotsAt w a.AN p.ns) := HP.out.n
  have HE : Hid (EdgesAt w a.AE p.es) := HP.out.e
  obtain ⟨nm, AE, nE, cE, gr, AN, nN, cN, AC, nC, cC, AW, nW, cW, mt⟩ := a
  simp only [PcA.val] at H1 H2 H3 HLE HLN HN HE ⊢
  clear HP
  go_enter Try.func3, Try.ntmps3
  go_wp2_with fail
  refine (H1.out _ ((Ext.refl _).alloc _)).mono ?_
  rintro e w1 ⟨b, rfl, he1, hb⟩
  have HB1 : Hid (Blk 27 w1 w.heap.size [.string nm, .slice AE nE cE, .int .i64 gr, .slice AN nN cN, .slice AC nC cC, .slice AW nW cW, .bool mt]) := (Blk.new' rfl).ext he1
  have HX1 := Lib.hid (((Ext.refl w).alloc _).trans he1)
  clear he1
  cases b
  · clear hb
    go_wp2_with fail
    refine (awake_any _).mono ?_
    rintro e w2 ⟨rfl, he2⟩
    go_wp2_with fail
    go_ret
    exact ⟨rfl, HX1.out.trans he2⟩
  clear hb
  obtain ⟨c0, c1, c2, c3, c4, c5, c6⟩ := blk7 HB1.out
  go_wp2_with fail
  refine (H2.out m _ HX1.out).mono ?_
  rintro e w2 ⟨v, rfl, hv, hv', he2⟩
  have HX2 := Lib.hid (HX1.out.trans he2); have HB2 := Lib.hid (HB1.out.ext he2)
  clear c0 c1 c2 c3 c4 c5 c6 he2
  by_cases hz : plE p m = 0
  rotate_left
  · have hvf := hv' hz
    subst hvf
    have hzb : (plE p m != 0) = true := by simp [hz]
    obtain ⟨E, hE⟩ : ∃ E, E = plE p m := ⟨_, rfl⟩
    rw [← hE] at hzb ⊢
    clear hv hv' hz hE
    go_wp2_with fail
    refine (awake_any _).mono ?_
    rintro e w3 ⟨rfl, he3⟩
    go_wp2_with fail
    go_ret
    exact ⟨rfl, HX2.out.trans he3⟩
  have HOK := Lib.hid (plE_zero.1 hz)
  obtain ⟨A1, c1', hvf, hI1, _⟩ := OwnI.slice' (n := nN) (hv hz) (by rw [plL_len]; exact HLN.out)
  subst hvf
  have HI1 := Lib.hid hI1
  have HZ0 := Lib.hid (plE_zero.2 (plV_zero HOK.out).1)
  rw [hz]
  clear hv hv' hz hI1
  have h16 : nN ≤ 16 := by rw [← HLN.out]; exact HOK.out.n
  obtain ⟨c0, c1, c2, c3, c4, c5, c6⟩ := blk7 HB2.out
  go_wp2_with fail
  refine (H2.out 0 _ HX2.out).mono ?_
  rintro e w3 ⟨v, rfl, hv, _, he3⟩
  rw [HZ0.out]
  obtain ⟨A2, c2', hvf, hI2, _⟩ := OwnI.slice' (n := nN) (hv HZ0.out) (by rw [plL_len]; exact HLN.out)
  subst hvf
  have HI2 := Lib.hid hI2; have HI1' := Lib.hid (HI1.out.ext he3)
  have HX3 := Lib.hid (HX2.out.trans he3); have HB3 := Lib.hid (HB2.out.ext he3)
  clear c0 c1 c2 c3 c4 c5 c6 he3 hv hI2 HI1
  obtain ⟨c0, c1, c2, c3, c4, c5, c6⟩ := blk7 HB3.out
  go_wp2_with fail
  refine (H3.out _ HX3.out).mono ?_
  rintro e w4 ⟨v, rfl, hv, _, he4⟩
  rw [HOK.out.g]
  obtain ⟨A3, c3', hvf, hE3, _, _⟩ := OwnE.slice' (n := nE) (hv HOK.out.g) (by rw [gradedE_len]; exact HLE.out)
  subst hvf
  have HE3 := Lib.hid hE3; have HI14 := Lib.hid (HI1'.out.ext he4); have HI24 := Lib.hid (HI2.out.ext he4)
  have HX4 := Lib.hid (HX3.out.trans he4); have HB4 := Lib.hid (HB3.out.ext he4)
  clear c0 c1 c2 c3 c4 c5 c6 he4 hv hE3 HI1' HI2
  have hNN : ((nN : Int) != nN) = false := by simp
  have hEE : ((nE : Int) != nE) = false := by simp
  have b1 := HB4.out.cell 1; have b3 := HB4.out.cell 3
  simp only [List.getElem?_cons_succ, List.getElem?_cons_zero] at b1 b3
  go_wp2_with fail
  clear b1 b3
  go_loopw [11] (fun i wr => ∃ k : Nat, k ≤ nN ∧ i = .int .i64 k ∧ Ext w4 wr) (fun i _ => nN - (intOf i).toNat)
  case atStart => exact ⟨0, Nat.zero_le _, rfl, Ext.refl _⟩
  case round =>
    obtain ⟨k, hk, rfl, hx⟩ := hrel
    obtain ⟨wr0, rfl⟩ : ∃ wr0 : World, wr0 = wr := ⟨_, rfl⟩
    have HXr := Lib.hid hx; clear hx
    by_cases hlt : k < nN
    rotate_left
    · obtain rfl : k = nN := by omega
      go_wp2_with fail
      refine (awake_any _).mono ?_
      rintro e w5 ⟨rfl, he5⟩
      go_wp2_with fail
      go_ret
      exact ⟨rfl, (HX4.out.trans HXr.out).trans he5⟩
    have hkl : k < p.ns.length := by rw [HLN.out]; exact hlt
    have HNK := Lib.hid (HOK.out.i k hkl)
    have HPB := Lib.hid (plV_bd HNK.out)
    have HEND := Lib.hid (plV_ends HNK.out)
    obtain ⟨bn, on, hAN, n0, n1⟩ := (HN.out.ext (HX4.out.trans HXr.out)).g (k := k) hkl
    subst hAN
    obtain ⟨D, hD⟩ := Int.eq_ofNat_of_zero_le HNK.out.e0
    have hDl : D < p.es.length := by have := HNK.out.e1; omega
    have hDn : D < nE := by rw [← HLE.out]; exact hDl
    have HDT : Hid ((gS p.ns k).1.toNat = D) := by show _ = _; rw [hD]; simp
    have HD := Lib.hid hD
    rw [hD] at n0
    obtain ⟨AT, hAT⟩ : ∃ x, x = (gS p.ns k).2 := ⟨_, rfl⟩
    rw [← hAT] at n1
    have HAT := Lib.hid hAT
    clear hAT hD
    have hpl := cell_lt n0
    have b1 := (HB4.out.ext HXr.out).cell 1; have b3 := (HB4.out.ext HXr.out).cell 3
    simp only [List.getElem?_cons_succ, List.getElem?_cons_zero] at b1 b3
    have hwl : w.heap.size < wr0.heap.size := (HB4.out.ext HXr.out).lt
    go_upto_region 14 with fail
    refine wp_at fun wq hWq => ?_
    have hNb : Blk 36 wq wr0.heap.size [.int .i64 (D : Int), .int .i64 AT] := by rw [hWq]; exact Blk.new' rfl
    have hxq : Ext wr0 wq := by rw [hWq]; exact (Ext.refl _).alloc _
    obtain ⟨nb, hnb⟩ : ∃ nb, nb = wr0.heap.size := ⟨_, rfl⟩
    rw [← hnb] at hNb ⊢
    have HNB := Lib.hid hNb; have HXq := Lib.hid (HXr.out.trans hxq)
    clear hWq hNb hxq hnb n0 n1 hpl b1 b3 hwl
    obtain ⟨m0, m1⟩ := blk2 HNB.out
    have b1 := (HB4.out.ext HXq.out).cell 1
    simp only [List.getElem?_cons_succ, List.getElem?_cons_zero] at b1
    obtain ⟨be, oe, LE, cLE, hAE, _, g1, hSE, _, _⟩ := (HE.out.ext (HX4.out.trans HXq.out)).g (k := D) hDl
    subst hAE
    have HLC1 : Hid (lcheck (gE p.es D).2 = 0) := ocheck_line ((gradedR_iff _ _ _).1 HOK.out.g).ok hDl
    have HLC2 : Hid (lcheck (gE (gradedE p.es p.cs m) D).2 = 0) := graded_lines HOK.out.g hDl
    have HFR : Hid (lengthN (gE p.es D).2 = baseN p (gS p.ns k).1.toNat) := by show _ = _; rw [HDT.out]; rfl
    have HTO : Hid (lengthN (gE (gradedE p.es p.cs m) D).2 = grdN p m (gS p.ns k).1.toNat) := by show _ = _; rw [HDT.out]; rfl
    obtain ⟨l1, hl1⟩ : ∃ l, l = (gE p.es D).2 := ⟨_, rfl⟩
    rw [← hl1] at g1 hSE HLC1 HFR
    clear hl1
    obtain ⟨n1, hn1⟩ : ∃ n, n = l1.length := ⟨_, rfl⟩
    rw [← hn1] at g1
    have HSE := Lib.hid hSE; have HN1 := Lib.hid hn1; clear hSE hn1
    have hDD : ((D : Int) < (0 : Int)) = False := by simp
    go_wp2_with fail
    refine (length_any LE n1 cLE l1 _ HSE.out HN1.out.symm).mono ?_
    rintro e w5 ⟨rfl, he5⟩
    rw [HLC1.out]
    have HX5 := Lib.hid (HXq.out.trans he5); have HNB5 := Lib.hid (HNB.out.ext he5)
    clear m0 m1 b1 g1 he5 HSE HN1 HNB HXq
    obtain ⟨m0, m1⟩ := blk2 HNB5.out
    obtain ⟨bg, og, LG, cLG, hAG, _, g1, hSG, _, _⟩ := (HE3.out.ext HX5.out).g (k := D) (by rw [gradedE_len]; exact hDl)
    subst hAG
    obtain ⟨l2, hl2⟩ : ∃ l, l = (gE (gradedE p.es p.cs m) D).2 := ⟨_, rfl⟩
    rw [← hl2] at g1 hSG HLC2 HTO
    clear hl2
    obtain ⟨n2, hn2⟩ : ∃ n, n = l2.length := ⟨_, rfl⟩
    rw [← hn2] at g1
    have HSG := Lib.hid hSG; have HN2 := Lib.hid hn2; clear hSG hn2
    go_wp2_with fail
    refine (length_any LG n2 cLG l2 _ HSG.out HN2.out.symm).mono ?_
    rintro e w6 ⟨rfl, he6⟩
    rw [HLC2.out]
    have HX6 := Lib.hid (HX5.out.trans he6); have HNB6 := Lib.hid (HNB5.out.ext he6)
    clear m0 m1 g1 he6 HSG HN2 HNB5 HX5
    obtain ⟨FR, hFR⟩ : ∃ F, F = lengthN l1 := ⟨_, rfl⟩
    obtain ⟨TO, hTO⟩ : ∃ T, T = lengthN l2 := ⟨_, rfl⟩
    rw [← hFR, ← hTO]
    have HFR' : Hid (baseN p (gS p.ns k).1.toNat = FR) := by show _ = _; rw [hFR, HFR.out]
    have HTO' : Hid (grdN p m (gS p.ns k).1.toNat = TO) := by show _ = _; rw [hTO, HTO.out]
    clear hFR hTO HFR HTO
    obtain ⟨b2, o2, hA2, i2⟩ := (HI24.out.ext HX6.out).g (k := k) (by rw [plL_len]; exact hkl)
    subst hA2
    obtain ⟨ba, oa, hA1, i1⟩ := (HI14.out.ext HX6.out).g (k := k) (by rw [plL_len]; exact hkl)
    subst hA1
    rw [plL_get hkl] at i1 i2
    rw [(plV_zero HOK.out).2 k hkl, ← HAT.out] at i2
    obtain ⟨PV, hPV⟩ : ∃ x, x = plV p m k := ⟨_, rfl⟩
    have hb1 := HPB.out
    have hend := HEND.out
    rw [← hPV, HTO'.out] at hb1
    rw [← hPV, HTO'.out, HFR'.out, ← HAT.out] at hend
    rw [← hPV] at i1
    have HPV := Lib.hid hPV
    clear hPV
    obtain ⟨m0, m1⟩ := blk2 HNB6.out
    have t0 : (AT != AT) = false := by simp
    have t1 : decide (PV < 0) = false := decide_eq_false (by omega)
    have t2 : decide ((TO : Int) < PV) = false := decide_eq_false (by omega)
    have hkk : (k : Int) < nN := by omega
    have hkk0 : (0 : Int) ≤ k := by omega
    go_upto_region 18 with fail
    have HQ : Hid (∀ i j, i < nN → j < nN → (gS p.ns i).1 = (gS p.ns j).1 → (gS p.ns i).2 ≤ (gS p.ns j).2 → plV p m i ≤ plV p m j) := fun i j hi hj he hle => plV_mono (HOK.out.i i (by rw [HLN.out]; exact hi)) (HOK.out.i j (by rw [HLN.out]; exact hj)) he hle
    go_cut [173] from 118 to 173 (fun v wc => v = .bool false ∧ Ext w6 wc)
    case first =>
      by_cases z0 : AT = 0
      · have q1 := hend.1 z0
        have t3 : (AT == 0) = true := by simp [z0]
        have t4 : (PV != 0) = false := by simp [q1]
        by_cases z1 : AT = (FR : Int)
        · have q2 := hend.2 z1
          have t5 : (AT == (FR : Int)) = true := by rw [beq_iff_eq]; exact z1
          have t6 : (PV != (TO : Int)) = false := by rw [bne_eq_false_iff_eq]; exact q2
          clear hend hb1 z0 z1 q1 q2
          go_quiet (fail)
          go_wp2_with fail
          go_meet
          case rel => exact ⟨rfl, (Ext.refl _).drewN _⟩
        · have t5 : (AT == (FR : Int)) = false := by rw [beq_eq_false_iff_ne]; exact z1
          clear hend hb1 z0 z1 q1
          go_quiet (fail)
          go_wp2_with fail
          go_meet
          case rel => exact ⟨rfl, (Ext.refl _).drewN _⟩
      · have t3 : (AT == 0) = false := by simp [z0]
        by_cases z1 : AT = (FR : Int)
        · have q2 := hend.2 z1
          have t5 : (AT == (FR : Int)) = true := by rw [beq_iff_eq]; exact z1
          have t6 : (PV != (TO : Int)) = false := by rw [bne_eq_false_iff_eq]; exact q2
          clear hend hb1 z0 z1 q2
          go_quiet (fail)
          go_wp2_with fail
          go_meet
          case rel => exact ⟨rfl, (Ext.refl _).drewN _⟩
        · have t5 : (AT == (FR : Int)) = false := by rw [beq_eq_false_iff_ne]; exact z1
          clear hend hb1 z0 z1
          go_quiet (fail)
          go_wp2_with fail
          go_meet
          case rel => exact ⟨rfl, (Ext.refl _).drewN _⟩
    case rest =>
      obtain ⟨hcv, hcut⟩ := hcut
      subst hcv
      obtain ⟨wz, rfl⟩ : ∃ wz : World, wz = wc := ⟨_, rfl⟩
      have HXz := Lib.hid (HX6.out.trans hcut); have HNBz := Lib.hid (HNB6.out.ext hcut)
      clear hcut m0 m1 i1 i2 t0 t1 t2 hend hb1
      go_wp2_with fail
      go_loopw [17] (fun j wr => ∃ x : Nat, x ≤ k ∧ j = .int .i64 x ∧ Ext wz wr) (fun j _ => k - (intOf j).toNat)
      case atStart => exact ⟨0, Nat.zero_le _, rfl, Ext.refl _⟩
      case round =>
        obtain ⟨x, hx, rfl, hxr⟩ := hrel
        obtain ⟨ws, rfl⟩ : ∃ ws : World, ws = wr := ⟨_, rfl⟩
        have HXs := Lib.hid (HXz.out.trans hxr); have HNBs := Lib.hid (HNBz.out.ext hxr); have HXzs := Lib.hid hxr
        clear hxr
        by_cases hxk : x < k
        rotate_left
        · obtain rfl : x = k := by omega
          go_wp2_with fail
          go_roundw
          case rel => exact ⟨x + 1, by omega, by go_num, HXs.out⟩
          case measure => simp [intOf]; omega
        have hxn : x < nN := by omega
        have hxl : x < p.ns.length := by rw [HLN.out]; exact hxn
        have hcA := (HN.out.ext (HX4.out.trans HXs.out)).at1 hxl
        obtain ⟨x0, x1⟩ := hcA
        have y0 := ((HI14.out.ext HXs.out).at1 (k := x) (by rw [plL_len]; exact hxl))
        have y1 := ((HI14.out.ext HXs.out).at1 (k := k) (by rw [plL_len]; exact hkl))
        rw [plL_get hxl] at y0
        rw [plL_get hkl, ← HPV.out] at y1
        obtain ⟨PX, hPX⟩ : ∃ PX, PX = plV p m x := ⟨_, rfl⟩
        rw [← hPX] at y0
        have HPX := Lib.hid hPX; clear hPX
        obtain ⟨EX, hEX⟩ : ∃ EX, EX = (gS p.ns x).1 := ⟨_, rfl⟩
        obtain ⟨TX, hTX⟩ : ∃ TX, TX = (gS p.ns x).2 := ⟨_, rfl⟩
        rw [← hEX] at x0
        rw [← hTX] at x1
        have HEX := Lib.hid hEX; have HTX := Lib.hid hTX; clear hEX hTX
        obtain ⟨m0, m1⟩ := blk2 HNBs.out
        have b3 := (HB4.out.ext HXs.out).cell 3
        simp only [List.getElem?_cons_succ, List.getElem?_cons_zero] at b3
        have r1 : EX = (D : Int) → TX ≤ AT → PX ≤ PV := fun h h' => by
          rw [HPX.out, HPV.out]; exact HQ.out x k hxn hlt (by rw [← HEX.out, HD.out]; exact h) (by rw [← HTX.out, ← HAT.out]; exact h')
        have r2 : EX = (D : Int) → AT ≤ TX → PV ≤ PX := fun h h' => by
          rw [HPX.out, HPV.out]; exact HQ.out k x hlt hxn (by rw [← HEX.out, HD.out]; exact h.symm) (by rw [← HTX.out, ← HAT.out]; exact h')
        have hxx : (x : Int) < nN := by omega
        have hxx0 : (0 : Int) ≤ x := by omega
        have hxk' : (x : Int) < k := by omega
        go_upto_region 23 with fail
        go_cut [231] from 179 to 231 (fun v wc => v = .bool false ∧ Ext ws wc)
        case first =>
          by_cases g0 : EX = (D : Int)
          · have t0 : (EX == (D : Int)) = true := by rw [beq_iff_eq]; exact g0
            by_cases g1 : TX ≤ AT
            · have t1 : decide (TX ≤ AT) = true := decide_eq_true g1
              have t2 : decide (PV < PX) = false := decide_eq_false (by have := r1 g0 g1; omega)
              by_cases g2 : AT ≤ TX
              · have t3 : decide (AT ≤ TX) = true := decide_eq_true g2
                have t4 : decide (PX < PV) = false := decide_eq_false (by have := r2 g0 g2; omega)
                clear r1 r2 g0 g1 g2
                go_quiet (fail)
                go_wp2_with fail
                go_meet
                case rel => exact ⟨rfl, (Ext.refl _).drewN _⟩
              · have t3 : decide (AT ≤ TX) = false := decide_eq_false g2
                clear r1 r2 g0 g1 g2
                go_quiet (fail)
                go_wp2_with fail
                go_meet
                case rel => exact ⟨rfl, (Ext.refl _).drewN _⟩
            · have t1 : decide (TX ≤ AT) = false := decide_eq_false g1
              have g2 : AT ≤ TX := by omega
              have t3 : decide (AT ≤ TX) = true := decide_eq_true g2
              have t4 : decide (PX < PV) = false := decide_eq_false (by have := r2 g0 g2; omega)
              clear r1 r2 g0 g1 g2
              go_quiet (fail)
              go_wp2_with fail
              go_meet
              case rel => exact ⟨rfl, (Ext.refl _).drewN _⟩
          · have t0 : (EX == (D : Int)) = false := by rw [beq_eq_false_iff_ne]; exact g0
            clear r1 r2 g0
            go_quiet (fail)
            go_wp2_with fail
            go_meet
            case rel => exact ⟨rfl, (Ext.refl _).drewN _⟩
        case rest =>
          obtain ⟨hcv, hcut⟩ := hcut
          subst hcv
          clear x0 x1 y0 y1 m0 m1 b3 r1 r2
          have HXc := Lib.hid (HXzs.out.trans hcut); clear hcut
          go_wp2_with fail
          go_roundw
          case rel => exact ⟨x + 1, by omega, by go_num, HXc.out⟩
          case measure => simp [intOf]; omega
end Go.Proofs.Ytliijigdbpmpaaa
