/- The law SeamSides: for every input it returns true and leaves its arguments as they were. No conditions. -/
import Derived.Test.YtilkgocpkhionaaRows
import Derived.OpenShut
import Derived.Test.YtilkgocpkhionaaKAlive
import Derived.Test.YtilkgocpkhionaaKSidesP
import Derived.Test.YtilkgocpkhionaaKOpenS
/- garmentlaw22.light -/
namespace Go.Proofs.Ytilkgocpkhionaa
open Go.RowKit
structure LtP (p : Pc) (most : Nat) : Prop where
  e : p.es.length ≤ 20
  c : p.cs.length ≤ 20
  w : p.ws.length ≤ 20
  n : p.ns.length ≤ 20
  l : ∀ k, k < p.es.length → (gE p.es k).2.length ≤ most ∧ (gE p.es k).1.size ≤ 100
structure LtS (s : Sty) : Prop where
  P : s.ps.length ≤ 14
  K : s.ss.length ≤ 30
  p : ∀ k, k < s.ps.length → LtP (gPc s.ps k) 80
theorem lightP_any (a : PcA) (p : Pc) (most : Nat) (hm : most ≤ 1000) (w : World) (hp : PcAt w a p) :
    Calls Try.prog 19 #[a.val, .int .i64 (most : Int)] w fun e w' => ∃ b, e = .returned (.bool b) ∧ Ext w w' ∧ (b = true → LtP p most) :=
  (light_any a.nm a.AE a.AN a.AC a.AW a.nE a.cE a.nN a.cN a.nC a.cC a.nW a.cW a.gr a.mt p.es w most hm hp.e hp.le).mono fun e w' ⟨b, h1, h2, h3⟩ => ⟨b, h1, h2, fun hb => by
    obtain ⟨g1, g2, g3, g4, g5⟩ := h3 hb
    exact ⟨g1, by rw [hp.lc]; exact g2, by rw [hp.li]; exact g3, by rw [hp.ln]; exact g4, g5⟩⟩
def RetLt (w : World) (s : Sty) (e : Ending) (w' : World) : Prop := ∃ b, e = .returned (.bool b) ∧ Ext w w' ∧ (b = true → LtS s)
set_option maxRecDepth 100000 in
set_option maxHeartbeats 1600000 in
theorem lt22_any (a : StyA) (s : Sty) (w : World) (hs : StyAt w a s) :
    Calls Try.prog 15 #[a.val] w (RetLt w s) := by
  have HS := Lib.hid hs; clear hs
  obtain ⟨nm, AS, nS, cS, AM, nM, cM, AP, nP, cP, AU, nU, cU, AK, nK, cK, AO, nO, cO⟩ := a
  have HLP : Hid (s.ps.length = nP) := HS.out.lP
  have HLK : Hid (s.ss.length = nK) := HS.out.lK
  have HPS := Lib.hid HS.out.P
  simp only [StyA.val] at HPS ⊢
  by_cases h1 : 14 < nP
  · go_enter Try.func15, Try.ntmps15
    go_wp2_with fail
    go_ret
    exact ⟨_, rfl, (Ext.refl _).alloc _, fun h => by cases h⟩
  by_cases h2 : 30 < nK
  · go_enter Try.func15, Try.ntmps15
    go_wp2_with fail
    go_ret
    exact ⟨_, rfl, (Ext.refl _).alloc _, fun h => by cases h⟩
  go_enter Try.func15, Try.ntmps15
  go_wp2_with fail
  refine wp_at fun W0 hW0 => ?_
  have hB : Blk 46 W0 w.heap.size [.string nm, .slice AS nS cS, .slice AM nM cM, .slice AP nP cP, .slice AU nU cU, .slice AK nK cK, .slice AO nO cO] := by rw [hW0]; exact Blk.new' rfl
  have hx0 : Ext w W0 := by rw [hW0]; exact (Ext.refl _).alloc _
  have HB := Lib.hid hB; have HX0 := Lib.hid hx0; clear hW0 hB hx0
  go_loopw [3] (fun i wr => ∃ k : Nat, k ≤ nP ∧ i = .int .i64 k ∧ (∀ j, j < k → LtP (gPc s.ps j) 80) ∧ Ext W0 wr) (fun i _ => nP - (intOf i).toNat)
  case atStart => exact ⟨0, Nat.zero_le _, rfl, fun j hj => absurd hj (Nat.not_lt_zero _), Ext.refl _⟩
  case round =>
    obtain ⟨k, hk, rfl, hall, hx⟩ := hrel
    have HALL := Lib.hid hall; have HX := Lib.hid hx; clear hall hx
    obtain ⟨c0, c1, c2, c3, c4, c5, c6⟩ := blk7 (HB.out.ext HX.out)
    by_cases hlt : k < nP
    · obtain ⟨bp, op, q, hAP, hpA, hcA⟩ := (HPS.out.ext (HX0.out.trans HX.out)) k (by rw [HLP.out]; exact hlt)
      subst hAP
      have HC := Lib.hid (lightP_any q (gPc s.ps k) 80 (by omega) wr hpA)
      clear hpA
      obtain ⟨pnm, pAE, pnE, pcE, pgr, pAN, pnN, pcN, pAC, pnC, pcC, pAW, pnW, pcW, pmt⟩ := q
      obtain ⟨a0, a1, a2, a3, a4, a5, a6⟩ := hcA
      simp only [PcA.val] at HC a0 a1 a2 a3 a4 a5 a6
      go_wp2_with fail
      refine HC.out.mono ?_
      rintro e w1 ⟨b, rfl, he1, hb⟩
      clear a0 a1 a2 a3 a4 a5 a6 c0 c1 c2 c3 c4 c5 c6
      cases b
      · go_wp2_with fail
        go_ret
        exact ⟨_, rfl, (HX0.out.trans HX.out).trans he1, fun h => by cases h⟩
      · have HLT := Lib.hid (hb rfl); clear hb
        go_wp2_with fail
        go_roundw
        case rel => exact ⟨k + 1, by omega, by go_num, fun j hj => by
          rcases Nat.lt_succ_iff_lt_or_eq.1 hj with h | h
          · exact HALL.out j h
          · subst h; exact HLT.out, HX.out.trans he1⟩
        case measure => simp [intOf]; omega
    · obtain rfl : k = nP := by omega
      go_wp2_with fail
      go_ret
      exact ⟨_, rfl, HX0.out.trans HX.out, fun _ => ⟨by rw [HLP.out]; omega, by rw [HLK.out]; omega, fun j hj => HALL.out j (by rw [← HLP.out]; exact hj)⟩⟩
end Go.Proofs.Ytilkgocpkhionaa
/- SeamSides returns true -/
namespace Go.Proofs.Ytilkgocpkhionaa
open Go.RowKit
theorem lensV_bad {s : Sty} {z k : Int} (h : (lensV s z k).2.2 ≠ 0) : (lensV s z k).1 = 0 ∧ (lensV s z k).2.1 = 0 := by
  unfold lensV at h ⊢
  split at h
  · rename_i h1; rw [if_pos h1]; exact ⟨rfl, rfl⟩
  · exact absurd rfl h
set_option maxRecDepth 100000 in
set_option maxHeartbeats 3200000 in
theorem sidesL_any (a : StyA) (s : Sty) (z k : Int) (w : World) (hs : StyAt w a s) :
    Calls Try.prog 6 #[a.val, .int .i64 z, .int .i64 k] w fun e w' => e = .returned (.bool true) ∧ Ext w w' := by
  have HS := Lib.hid hs; clear hs
  have H1 := Lib.hid (fun W (h : Ext w W) => lt22_any a s W (HS.out.ext h))
  have H2 := Lib.hid (fun W (h : Ext w W) => lengths_any a s z k W (HS.out.ext h))
  have H3 := Lib.hid (fun W (h : Ext w W) (hl : LtS s) => unfit_any a s z W (HS.out.ext h) (by have := hl.K; rw [HS.out.lK] at this; omega))
  have HLK := Lib.hid HS.out.lK
  have HKS := Lib.hid HS.out.K
  have HO1 := Lib.hid (fun (AK' : Option Addr) (cK' k' : Nat) W (h : Ext w W) (hk : SeamsAt W AK' (swSty s k').ss) => show StyAt W { a with AK := AK', cK := cK' } (swSty s k') from ⟨HS.out.M.ext h, HS.out.P.ext h, hk, HS.out.lM, HS.out.lP, by rw [swSty_len]; exact HS.out.lK, HS.out.bM, HS.out.bP, HS.out.bK⟩)
  have H4 := Lib.hid (fun (AK' : Option Addr) (cK' k' : Nat) W (h : Ext w W) (hk : SeamsAt W AK' (swSty s k').ss) => lengths_any { a with AK := AK', cK := cK' } (swSty s k') z k W (HO1.out AK' cK' k' W h hk))
  have H5 := Lib.hid (fun (AK' : Option Addr) (cK' k' : Nat) W (h : Ext w W) (hk : SeamsAt W AK' (swSty s k').ss) (hl : LtS s) => unfit_any { a with AK := AK', cK := cK' } (swSty s k') z W (HO1.out AK' cK' k' W h hk) (by have := hl.K; rw [HS.out.lK] at this; simp only; omega))
  clear HO1
  obtain ⟨nm, AS, nS, cS, AM, nM, cM, AP, nP, cP, AU, nU, cU, AK, nK, cK, AO, nO, cO⟩ := a
  simp only [StyA.val] at H1 H2 H3 H4 H5 HLK HKS ⊢
  clear HS
  go_enter Try.func6, Try.ntmps6
  go_wp2_with fail
  refine (H1.out _ ((Ext.refl _).alloc _)).mono ?_
  rintro e w1 ⟨b, rfl, he1, hb⟩
  have HB1 : Hid (Blk 46 w1 w.heap.size [.string nm, .slice AS nS cS, .slice AM nM cM, .slice AP nP cP, .slice AU nU cU, .slice AK nK cK, .slice AO nO cO]) := (Blk.new' rfl).ext he1
  have HX1 := Lib.hid (((Ext.refl w).alloc _).trans he1)
  clear he1
  cases b
  · clear hb
    go_wp2_with fail
    refine (alive_any _).mono ?_
    rintro e w2 ⟨rfl, he2⟩
    go_wp2_with fail
    go_ret
    exact ⟨rfl, HX1.out.trans he2⟩
  have HLT := Lib.hid (hb rfl); clear hb
  have hn30 : nK ≤ 30 := by rw [← HLK.out]; exact HLT.out.K
  obtain ⟨c0, c1, c2, c3, c4, c5, c6⟩ := blk7 HB1.out
  go_wp2_with fail
  refine (H2.out _ HX1.out).mono ?_
  rintro e w2 ⟨rfl, he2⟩
  have HB2 := Lib.hid (HB1.out.ext he2); have HX2 := Lib.hid (HX1.out.trans he2)
  clear he2 c0 c1 c2 c3 c4 c5 c6
  obtain ⟨V, hV⟩ : ∃ V, V = lensV s z k := ⟨_, rfl⟩
  have HV := Lib.hid hV
  rw [← hV]
  clear hV
  obtain ⟨LA, LB, E⟩ := V
  simp only [LenV]
  by_cases hz : E = 0
  rotate_left
  · obtain ⟨hA, hB⟩ := lensV_bad (s := s) (z := z) (k := k) (by rw [← HV.out]; exact hz)
    rw [← HV.out] at hA hB
    simp only at hA hB
    subst hA; subst hB
    have hzb : (E != 0) = true := by simp [hz]
    clear hz HV
    go_wp2_with fail
    refine (alive_any _).mono ?_
    rintro e w3 ⟨rfl, he3⟩
    go_wp2_with fail
    go_ret
    exact ⟨rfl, HX2.out.trans he3⟩
  subst hz
  have hcond := (lens_zero (s := s) (z := z) (k := k) (by rw [← lensV_err, ← HV.out])).1
  obtain ⟨K, rfl⟩ := Int.eq_ofNat_of_zero_le hcond.2.1
  have hK : K < nK := by have := hcond.2.2; rw [HLK.out] at this; omega
  clear hcond
  have HKl : Hid (K < s.ss.length) := by show _ < _; rw [HLK.out]; exact hK
  have HSWL : Hid (lensV (swSty s K) z (K : Int) = (LB, LA, 0)) := by show _ = _; rw [sw_lens_k (by rw [← HV.out]), ← HV.out]
  obtain ⟨bk, ok, hAK, hsm⟩ := (HKS.out.ext HX2.out) K HKl.out
  subst hAK
  have HCELLS := Lib.hid (SeamsAt.cells (HKS.out.ext HX2.out))
  obtain ⟨sm, hsmd⟩ : ∃ sm, sm = gSm s.ss K := ⟨_, rfl⟩
  rw [← hsmd] at hsm
  obtain ⟨pa, ea, pb, eb, rv, es⟩ := sm
  have HSW : Hid (swSm (gSm s.ss K) = ⟨pb, eb, pa, ea, rv, es⟩) := by show _ = _; rw [← hsmd]; rfl
  clear hsmd
  obtain ⟨k0, k1, k2, k3, k4, k5⟩ := hsm
  simp only at k0 k1 k2 k3 k4 k5
  obtain ⟨c0, c1, c2, c3, c4, c5, c6⟩ := blk7 HB2.out
  have hl2 : w.heap.size < w2.heap.size := HB2.out.lt
  obtain ⟨i0, hi0, hz0, hz1, hz2⟩ := info_parts seam_info
  go_upto_region 9 with fail
  refine wp_at fun W3 hW3 => ?_
  have hOb : Blk 46 W3 w2.heap.size [.string nm, .slice AS nS cS, .slice AM nM cM, .slice AP nP cP, .slice AU nU cU, .slice (some ⟨bk, ok, none⟩) nK cK, .slice AO nO cO] := by rw [hW3]; exact Blk.new' rfl
  have hx3 : Ext w2 W3 := by rw [hW3]; exact (Ext.refl _).alloc _
  have HOB := Lib.hid hOb; have HX23 := Lib.hid hx3
  clear hW3 hOb hx3 c0 c1 c2 c3 c4 c5 c6
  obtain ⟨c0, c1, c2, c3, c4, c5, c6⟩ := blk7 (HB2.out.ext HX23.out)
  obtain ⟨o0, o1, o2, o3, o4, o5, o6⟩ := blk7 HOB.out
  have of5 := HOB.out.frozen 5
  have hl3 : w2.heap.size < W3.heap.size := HOB.out.lt
  have H63 : Hid (0 + nK ≤ maxLen) := by show _ ≤ _; unfold maxLen; omega
  have H64 : Hid ((0 + nK) * 48 ≤ 140737488355328) := by show _ ≤ _; omega
  have hlw : w.heap.size < W3.heap.size := by omega
  have HQ1 : Hid ((smcells s.ss).length = nK * 6) := by show _ = _; rw [smcells_length, HLK.out]
  have HQ2 : Hid (∀ j u, (smcells s.ss)[j]? = some u → (W3.alloc (.cells #[] 51)).cell? ((⟨bk, ok, none⟩ : Addr).add j) = some u) := fun j u hu => ((Ext.refl W3).alloc _).cell (HX23.out.cell (HCELLS.out j u hu))
  have HQ6 : Hid (W3.heap.size ≤ (W3.alloc (.cells #[] 51)).heap.size) := by show _ ≤ _; simp
  go_wp2_with (at_builtin; refine wpList_append_own _ rfl (.tmp 52) (.tmp 54) 43 rfl W3.heap.size 51 i0 (.agg #[.int .i64 0, .int .i64 0, .int .i64 0, .int .i64 0, .bool false, .int .i64 0]) 6 48 Try.underlying43 hi0 hz0 hz1 hz2 rfl (by decide) _ _ _ rfl (World.ownsRow_made W3 #[] 0 (Nat.le_refl _) (Nat.zero_le _) rfl) ⟨bk, ok, none⟩ nK cK (smcells s.ss) rfl HQ1.out HQ2.out (smcells_one _) H63.out H64.out HQ6.out ?_)
  intro v' w5 hown hgrow _
  have hvf : ∃ g cap R, v' = .slice (some ⟨g, 0, none⟩) nK cap ∧ W3.heap.size ≤ g ∧ Blk 51 w5 g (smcells s.ss ++ R) := by
    rcases hown.2 with ⟨_, h0⟩ | ⟨g, cap, cur, hv, hb, hh, hl, hm, hs, ht⟩
    · omega
    · refine ⟨g, cap, cur.toList.drop (nK * 6), hv, hb, ?_⟩
      unfold Blk
      rw [← ht, List.take_append_drop]; exact hh
  obtain ⟨g, cap, R, hvf, hgl, hBg⟩ := hvf
  subst hvf
  have hx35 : Ext W3 w5 := ((Ext.refl W3).alloc _).grown hgrow (by intro k hk; simp [Value.ownBlock] at hk; omega)
  have HX35 := Lib.hid hx35; have HBG := Lib.hid hBg
  clear hx35 hBg hown hgrow
  have HOB5 := Lib.hid (HOB.out.ext HX35.out)
  clear c0 c1 c2 c3 c4 c5 c6 o0 o1 o2 o3 o4 o5 o6 of5
  obtain ⟨o0, o1, o2, o3, o4, o5, o6⟩ := blk7 HOB5.out
  have of5 := HOB5.out.frozen 5
  have hg2 : g ≠ w2.heap.size := by omega
  go_upto_region 10 with fail
  refine wp_at fun W6 hW6 => ?_
  have hx6 : Ext w2 W6 := by rw [hW6]; exact (HX23.out.trans HX35.out).setCell (Nat.le_refl _) _
  have hOb6 : Blk 46 W6 w2.heap.size [.string nm, .slice AS nS cS, .slice AM nM cM, .slice AP nP cP, .slice AU nU cU, .slice (some ⟨g, 0, none⟩) nK cap, .slice AO nO cO] := by rw [hW6]; exact HOB5.out.set 5 _
  have hBg6 : Blk 51 W6 g (smcells s.ss ++ R) := by rw [hW6]; exact HBG.out.other hg2 _
  have HX6 := Lib.hid hx6; have HOB6 := Lib.hid hOb6; have HBG6 := Lib.hid hBg6
  clear hW6 hx6 hOb6 hBg6 o0 o1 o2 o3 o4 o5 o6 of5 HBG HOB5
  obtain ⟨c0, c1, c2, c3, c4, c5, c6⟩ := blk7 (HB2.out.ext HX6.out)
  have y0 := HX6.out.cell k0
  have y1 := HX6.out.cell k1
  have y2 := HX6.out.cell k2
  have y3 := HX6.out.cell k3
  have y4 := HX6.out.cell k4
  have y5 := HX6.out.cell k5
  go_upto_region 11 with fail
  refine wp_at fun W7 hW7 => ?_
  have hx7 : Ext W6 W7 := by rw [hW7]; exact (Ext.refl _).alloc _
  have hXb : Blk 51 W7 W6.heap.size [.int .i64 pa, .int .i64 ea, .int .i64 pb, .int .i64 eb, .bool rv, .int .i64 es] := by rw [hW7]; exact Blk.new' rfl
  have HX7 := Lib.hid hx7
  clear hW7 hx7 c0 c1 c2 c3 c4 c5 c6 y0 y1 y2 y3 y4 y5 k0 k1 k2 k3 k4 k5
  obtain ⟨x0, x1, x2, x3, x4, x5⟩ := blk6 hXb
  clear hXb
  have HOB7 := Lib.hid (HOB6.out.ext HX7.out)
  have HBG7 := Lib.hid (HBG6.out.ext HX7.out)
  obtain ⟨o0, o1, o2, o3, o4, o5, o6⟩ := blk7 HOB7.out
  have HSA7 := Lib.hid (seams_blk HBG7.out)
  obtain ⟨d0, d1, d2, d3, d4, d5⟩ := HSA7.out.at0 HKl.out
  have f0 := HBG7.out.frozen (K * 6)
  have f1 := HBG7.out.frozen (K * 6 + 1)
  have f2 := HBG7.out.frozen (K * 6 + 2)
  have f3 := HBG7.out.frozen (K * 6 + 3)
  have f4 := HBG7.out.frozen (K * 6 + 4)
  have f5 := HBG7.out.frozen (K * 6 + 5)
  go_upto_region 12 with fail
  refine wp_at fun W8 hW8 => ?_
  have hg6 : w2.heap.size ≤ g := by omega
  have hx8 : Ext w2 W8 := by
    rw [hW8]
    exact ((((((HX6.out.trans HX7.out).setCell hg6 _).setCell hg6 _).setCell hg6 _).setCell hg6 _).setCell hg6 _).setCell hg6 _
  have hOb8 : Blk 46 W8 w2.heap.size [.string nm, .slice AS nS cS, .slice AM nM cM, .slice AP nP cP, .slice AU nU cU, .slice (some ⟨g, 0, none⟩) nK cap, .slice AO nO cO] := by
    rw [hW8]
    have hne : w2.heap.size ≠ g := by omega
    exact (((((HOB7.out.other hne _).other hne _).other hne _).other hne _).other hne _).other hne _
  have hSA8 : SeamsAt W8 (some ⟨g, 0, none⟩) (swSty s K).ss := by
    rw [hW8]
    have h := seams_set (swSm (gSm s.ss K)) HSA7.out HKl.out
    unfold swSty
    rw [HSW.out] at h ⊢
    exact h
  have HX8 := Lib.hid (HX2.out.trans hx8); have HX28 := Lib.hid hx8; have HOB8 := Lib.hid hOb8; have HSA8 := Lib.hid hSA8
  clear hW8 hx8 hOb8 hSA8 o0 o1 o2 o3 o4 o5 o6 d0 d1 d2 d3 d4 d5 f0 f1 f2 f3 f4 f5 x0 x1 x2 x3 x4 x5 HSA7 HBG7 HBG6 HOB7 HOB6
  obtain ⟨o0, o1, o2, o3, o4, o5, o6⟩ := blk7 HOB8.out
  go_wp2_with fail
  refine (H4.out (some ⟨g, 0, none⟩) cap K _ HX8.out HSA8.out).mono ?_
  rintro e w9 ⟨rfl, he9⟩
  rw [HSWL.out]
  simp only [LenV]
  have HX9 := Lib.hid (HX8.out.trans he9)
  have HB9 := Lib.hid (HB2.out.ext (HX28.out.trans he9)); have HOB9 := Lib.hid (HOB8.out.ext he9); have HSA9 := Lib.hid (HSA8.out.ext he9)
  clear he9 o0 o1 o2 o3 o4 o5 o6
  obtain ⟨c0, c1, c2, c3, c4, c5, c6⟩ := blk7 HB9.out
  go_wp2_with fail
  refine (H3.out _ HX9.out HLT.out).mono ?_
  rintro e w10 ⟨v10, rfl, hv10, hv10', he10⟩
  have HX10 := Lib.hid (HX9.out.trans he10)
  have HOB10 := Lib.hid (HOB9.out.ext he10); have HSA10 := Lib.hid (HSA9.out.ext he10)
  clear he10 c0 c1 c2 c3 c4 c5 c6
  obtain ⟨o0, o1, o2, o3, o4, o5, o6⟩ := blk7 HOB10.out
  have s1 : (LA == LA) = true := by simp
  have s2 : (LB == LB) = true := by simp
  by_cases hz : unfE s z = 0
  · obtain ⟨hu0, huL⟩ := sw_unf (s := s) (z := z) HKl.out hz
    have hO10 := hv10 hz
    have hK30 : (unfL s z).length ≤ 30 := Nat.le_trans (unfTo_len s z s.ss.length) HLT.out.K
    obtain ⟨L, hL⟩ : ∃ L, L = unfL s z := ⟨_, rfl⟩
    rw [← hL] at hK30 hO10 huL
    obtain ⟨n, hn⟩ : ∃ n, L.length = n := ⟨_, rfl⟩
    obtain ⟨A10, c10, hvf, hE10, _⟩ := OwnI.slice' (n := n) hO10 hn
    subst hvf
    rw [hn] at hK30
    have HN := Lib.hid hn; have HE10 := Lib.hid hE10; have HU0 := Lib.hid hu0; have HUL := Lib.hid huL
    rw [hz]
    clear hv10 hv10' hO10 hE10 hn hL hz hu0 huL
    go_wp2_with fail
    refine (H5.out (some ⟨g, 0, none⟩) cap K _ HX10.out HSA10.out HLT.out).mono ?_
    rintro e w11 ⟨v11, rfl, hv11, hv11', he11⟩
    have hO11 := hv11 HU0.out
    rw [HUL.out] at hO11
    rw [HU0.out]
    obtain ⟨A11, c11, hvf, hE11, _⟩ := OwnI.slice' (n := n) hO11 HN.out
    subst hvf
    have HX11 := Lib.hid (HX10.out.trans he11); have HE11 := Lib.hid hE11; have HE10' := Lib.hid (HE10.out.ext he11)
    clear hv11 hv11' hO11 hE11 he11 o0 o1 o2 o3 o4 o5 o6
    go_wp2_with fail
    refine (sameInts_eq A10 A11 n c10 c11 L _ HE10'.out HE11.out HN.out (by omega)).mono ?_
    rintro e w12 ⟨rfl, he12⟩
    go_wp2_with fail
    refine (alive_any _).mono ?_
    rintro e w13 ⟨rfl, he13⟩
    go_wp2_with fail
    go_ret
    exact ⟨rfl, (HX11.out.trans he12).trans he13⟩
  · have hvf := hv10' hz
    subst hvf
    have hzb : (unfE s z != 0) = true := by simp [hz]
    obtain ⟨x, hx⟩ : ∃ x, x = unfE s z := ⟨_, rfl⟩
    rw [← hx] at hzb ⊢
    clear hv10 hv10' hz hx
    go_wp2_with fail
    refine (H5.out (some ⟨g, 0, none⟩) cap K _ HX10.out HSA10.out HLT.out).mono ?_
    rintro e w11 ⟨v11, rfl, _, _, he11⟩
    have HX11 := Lib.hid (HX10.out.trans he11)
    clear he11 o0 o1 o2 o3 o4 o5 o6
    obtain ⟨y, hy⟩ : ∃ y, y = unfE (swSty s K) z := ⟨_, rfl⟩
    rw [← hy]
    clear hy
    go_wp2_with fail
    refine (alive_any _).mono ?_
    rintro e w13 ⟨rfl, he13⟩
    go_wp2_with fail
    go_ret
    exact ⟨rfl, HX11.out.trans he13⟩
end Go.Proofs.Ytilkgocpkhionaa
namespace Go.Proofs.Ytilkgocpkhionaa
open Go.ChangeShapes Go.WideShapes Go.ChangeAt Go.RowKit Go.Deep Go.Joins
set_option maxRecDepth 100000 in
theorem seamSides_lifted (os : Os) (started : os.Started) (H : Type) (enc : TypeId × Value → H) :
    ReturnsInHanded {} Try.checked os 6 .any (Rows.seamSidesSpec.pre6 enc Try.prog Try.f6 Rows.seamSidesRow.domain false) (Rows.seamSidesSpec.post enc Try.prog Try.f6 false true false false) := by
  refine returnsInHanded_of_change (C := Try.checked) Try.own started (by kernel_rfl) Try.func6
    (ChangeSpec.witness6 (enc := enc) (C := Try.checked) false ⟨#[], #[.agg #[.string ⟨#[]⟩, .slice none 0 0, .slice none 0 0, .slice none 0 0, .slice none 0 0, .slice none 0 0, .slice none 0 0], .int .i64 0, .int .i64 0], []⟩ 8 (by kernel_rfl) (by kernel_rfl) (by kernel_rfl) (by kernel_rfl)) ?_
  intro W base args ds gs before hval0 hW hcnd _
  have hval : ∀ (j : Nat) t v, Try.f6.params[j]? = some t → args[j]? = some v → Value.okWide Try.prog W .any base t v := hval0
  have hW' := hW
  obtain ⟨p, q, hA0, hV, rfl, hfz, hnd⟩ := hW
  have hA : DataW.TrodAll enc Try.prog W 0 (fun _ => true) true Try.f6.params.toList args.toList ds p := hA0
  rw [Try.params6] at hA hval
  obtain ⟨v0, vs0, d0, ds0, p0, q0, hargs, rfl, rfl, h0, r0⟩ := trodAll_cons hA
  obtain ⟨v1, vs1, d1, ds1, p1, q1, rfl, rfl, rfl, h1, r1⟩ := trodAll_cons r0
  obtain ⟨v2, vs2, d2, ds2, p2, q2, rfl, rfl, rfl, h2, r2⟩ := trodAll_cons r1
  obtain ⟨rfl, rfl, rfl⟩ := trodAll_nil r2
  obtain rfl : args = #[v0, v1, v2] := by cases args; simp_all
  obtain ⟨rfl, rfl⟩ := trodVars_none hV
  have k0 := h0
  have lt0 : ∀ x ∈ p0, x.block < W.heap.size := by obtain ⟨m, hm⟩ := k0; exact DataW.trod_lt m _ _ _ hm
  obtain ⟨a0, s0, hv0, hS0, wS0⟩ := style_open (hval 0 46 v0 rfl rfl) h0
  subst hv0
  have k1 := h1
  have lt1 : ∀ x ∈ p1, x.block < W.heap.size := by obtain ⟨m, hm⟩ := k1; exact DataW.trod_lt m _ _ _ hm
  obtain ⟨a1, hv1, wf1⟩ := int_open (hval 1 3 v1 rfl rfl) h1
  subst hv1
  have k2 := h2
  have lt2 : ∀ x ∈ p2, x.block < W.heap.size := by obtain ⟨m, hm⟩ := k2; exact DataW.trod_lt m _ _ _ hm
  obtain ⟨a2, hv2, wf2⟩ := int_open (hval 2 3 v2 rfl rfl) h2
  subst hv2
  clear hA0 hval0
  refine (sidesL_any a0 s0 a1 a2 W hS0).mono fun e W' ⟨he, bel⟩ => ?_
  subst he
  exact ⟨_, rfl, _, _, _, [], _, [], hW', trodAll_mk1 (shut_bool Try.underlying4 _), (trodAll_cons_mk (Below.trod Try.laidOut (by kernel_rfl) (of_decide_eq_true (by kernel_rfl)) k0 bel lt0) (trodAll_cons_mk (Below.trod Try.laidOut (by kernel_rfl) (of_decide_eq_true (by kernel_rfl)) k1 bel lt1) (trodAll_cons_mk (Below.trod Try.laidOut (by kernel_rfl) (of_decide_eq_true (by kernel_rfl)) k2 bel lt2) trodAll_mk0))), rfl, Below.frame bel _, fun h => by cases h⟩
theorem seamSides_holds : Rows.SeamSidesSaid :=
  OpenClaim.holds_of_wide 6 Try.f6 rfl rfl rfl rfl rfl rfl rfl ⟨rfl, rfl, rfl, rfl, rfl⟩ rfl rfl rfl rfl rfl (by kernel_rfl) Try.func6 (by kernel_rfl)
    (of_decide_eq_true (by kernel_rfl)) (by unfold Func.isWrapper; first | (rw [if_pos (by decide +kernel)]; kernel_rfl) | (rw [if_neg (by decide +kernel)]; exact ⟨rfl, rfl⟩))
    (fun os started H enc _ => seamSides_lifted os started H enc)
end Go.Proofs.Ytilkgocpkhionaa

