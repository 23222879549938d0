/- The law NotchPlaced: for every input it returns true and leaves its arguments as they were. No conditions. -/
import Derived.Test.YtliijigdbpmpaaaGreatRows
import Derived.OpenShut
import Derived.Test.YtliijigdbpmpaaaGreatKRAlong
import Derived.Test.YtliijigdbpmpaaaGreatKRPlaced
import Derived.Test.YtliijigdbpmpaaaGreatKAwake
import Derived.Test.YtliijigdbpmpaaaGreatKOpenS
/- the reference: garmentref10.Along -/
namespace Go.Proofs.YtliijigdbpmpaaaGreat
open Go.RowKit
set_option maxRecDepth 100000 in
set_option maxHeartbeats 1600000 in
theorem ralong_any (A : Option Addr) (n c : Nat) (l : List Spot) (s : Int) (w : World) (ha : SpotsAt w A l) (hl : l.length = n) :
    Calls Tryz.prog 24 #[.slice A n c, .int .i64 s] w fun e w' => e = .returned (.tuple #[SV (alongV l s), .int .i64 (alongE l s)]) ∧ Ext w w' := by
  have HL := Lib.hid hl; have HA := Lib.hid ha; clear hl ha
  go_enter Tryz.func24, Tryz.ntmps24
  go_wp2_with fail
  refine (rcheck_any A n c l _ (HA.out.ext ((Ext.refl _).alloc _)) HL.out).mono ?_
  rintro e w1 ⟨rfl, he1⟩
  have HB1 : Hid (Blk 57 w1 w.heap.size [.int .i64 0, .int .i64 0]) := (Blk.new' rfl).ext he1
  have HX1 := Lib.hid (((Ext.refl w).alloc _).trans he1)
  clear he1
  obtain ⟨r0, r1⟩ := blk2 HB1.out
  have f0 := HB1.out.frozen 0
  have f1 := HB1.out.frozen 1
  by_cases hz : lcheck l = 0
  rotate_left
  · have hzb : (lcheck l != 0) = true := by simp [hz]
    have HE : Hid (alongE l s = lcheck l) := by show _ = _; unfold alongE; rw [if_pos hz]
    have HV : Hid (alongV l s = (0, 0)) := by show _ = _; unfold alongV; rw [HE.out, if_pos hz]
    obtain ⟨E, hE⟩ : ∃ E, E = lcheck l := ⟨_, rfl⟩
    rw [← hE] at hzb HE ⊢
    clear hz hE
    go_wp2_with fail
    refine bodyPost_ret (v := .tuple #[SV (0, 0), .int .i64 E]) (by simp [results, Tryz.results24, go_sem, r0, r1]) rfl ⟨by rw [HV.out, HE.out], ?_⟩
    first
      | exact (HX1.out.setCell (Nat.le_refl _) _).setCell (Nat.le_refl _) _
      | exact HX1.out
  obtain ⟨hl2, hl40, hin⟩ := lcheck_zero hz
  have HIN := Lib.hid hin
  have hn1 : 1 ≤ n := by rw [← HL.out]; omega
  have hn40 : n ≤ 40 := by rw [← HL.out]; exact hl40
  have HTT : Hid ((lengthN l : Int) = (lenTo l (n - 1) : Int)) := by show _ = _; unfold lengthN; rw [if_neg (fun h => h hz), HL.out]
  have HZ := Lib.hid hz
  rw [hz]
  clear hz hin hl2 hl40
  by_cases h0 : s < 0
  · have HE : Hid (alongE l s = 3) := by show _ = _; unfold alongE; rw [if_neg (fun h => h HZ.out), if_pos (Or.inl h0)]
    have HV : Hid (alongV l s = (0, 0)) := by show _ = _; unfold alongV; rw [HE.out, if_pos (by decide)]
    go_wp2_with fail
    refine bodyPost_ret (v := .tuple #[SV (0, 0), .int .i64 3]) (by simp [results, Tryz.results24, go_sem, r0, r1]) rfl ⟨by rw [HV.out, HE.out], ?_⟩
    first
      | exact (HX1.out.setCell (Nat.le_refl _) _).setCell (Nat.le_refl _) _
      | exact HX1.out
  go_wp2_with fail
  refine (rtotal_any A n c l _ (HA.out.ext HX1.out) HL.out hn1 hn40 HIN.out).mono ?_
  rintro e w2 ⟨rfl, he2⟩
  have HX2 := Lib.hid (HX1.out.trans he2)
  have HB2 := Lib.hid (HB1.out.ext he2)
  clear r0 r1 f0 f1 he2
  obtain ⟨r0, r1⟩ := blk2 HB2.out
  have f0 := HB2.out.frozen 0
  have f1 := HB2.out.frozen 1
  obtain ⟨TT, hTT⟩ : ∃ T, T = lenTo l (n - 1) := ⟨_, rfl⟩
  rw [← hTT] at HTT ⊢
  clear hTT
  by_cases h1 : (TT : Int) < s
  · have HE : Hid (alongE l s = 3) := by show _ = _; unfold alongE; rw [if_neg (fun h => h HZ.out), if_pos (Or.inr (by rw [HTT.out]; exact h1))]
    have HV : Hid (alongV l s = (0, 0)) := by show _ = _; unfold alongV; rw [HE.out, if_pos (by decide)]
    go_wp2_with fail
    refine bodyPost_ret (v := .tuple #[SV (0, 0), .int .i64 3]) (by simp [results, Tryz.results24, go_sem, r0, r1]) rfl ⟨by rw [HV.out, HE.out], ?_⟩
    first
      | exact (HX2.out.setCell (Nat.le_refl _) _).setCell (Nat.le_refl _) _
      | exact HX2.out
  have HE : Hid (alongE l s = 0) := by show _ = _; unfold alongE; rw [if_neg (fun h => h HZ.out), if_neg (by rw [HTT.out]; omega)]
  have HV : Hid (alongV l s = alongS l s) := by show _ = _; unfold alongV; rw [HE.out, if_neg (by decide)]
  have HSL : Hid (s ≤ (lengthN l : Int)) := by show _ ≤ _; rw [HTT.out]; omega
  go_wp2_with fail
  refine (rlocate_any A n c l s _ (HA.out.ext HX2.out) HL.out HZ.out (by omega) HSL.out).mono ?_
  rintro e w3 ⟨rfl, he3⟩
  have HX3 := Lib.hid (HX2.out.trans he3)
  have HB3 := Lib.hid (HB2.out.ext he3)
  clear r0 r1 f0 f1 he3
  obtain ⟨r0, r1⟩ := blk2 HB3.out
  have f0 := HB3.out.frozen 0
  have f1 := HB3.out.frozen 1
  have hbl : w.heap.size < w3.heap.size := HB3.out.lt
  obtain ⟨P, hP⟩ : ∃ P, P = alongS l s := ⟨_, rfl⟩
  rw [← hP] at HV ⊢
  clear hP
  obtain ⟨p0, p1⟩ := P
  go_wp2_with fail
  refine bodyPost_ret (v := .tuple #[SV (p0, p1), .int .i64 0]) (by simp [results, Tryz.results24, go_sem, r0, r1, hbl]) rfl ⟨by rw [HV.out, HE.out], ?_⟩
  first
    | exact ((HX3.out.alloc _).setCell (Nat.le_refl _) _).setCell (Nat.le_refl _) _
    | exact ((HX3.out.setCell (Nat.le_refl _) _).setCell (Nat.le_refl _) _).alloc _
end Go.Proofs.YtliijigdbpmpaaaGreat
/- the reference: garmentref23.Spots -/
namespace Go.Proofs.YtliijigdbpmpaaaGreat
open Go.RowKit
set_option maxRecDepth 100000 in
set_option maxHeartbeats 3200000 in
theorem rspots_any (a : PcA) (p : Pc) (m : Int) (w : World) (hp : PcAt w a p) (hb1 : p.es.length ≤ 1000) (hb2 : p.cs.length ≤ 1000) :
    Calls Tryz.prog 10 #[a.val, .int .i64 m] w (RetSp w p m) := by
  have HC := Lib.hid (fun W (h : Ext w W) => rplaced_any a p m W (hp.ext h) hb1 hb2)
  have HP := Lib.hid hp; clear hp
  have HG := Lib.hid (fun W (h : Ext w W) => rgraded_any a.nm a.AE a.AN a.AC a.AW a.nE a.cE a.nN a.cN a.nC a.cC a.nW a.cW a.gr m a.mt p.es p.cs W (HP.out.e.ext h) HP.out.le (HP.out.c.ext h) HP.out.lc (by rw [← HP.out.le]; exact hb1) (by rw [← HP.out.lc]; exact hb2))
  clear hb1 hb2
  obtain ⟨nm, AE, nE, cE, gr, AN, nN, cN, AC, nC, cC, AW, nW, cW, mt⟩ := a
  have HLN : Hid (p.ns.length = nN) := HP.out.ln
  have HLE : Hid (p.es.length = nE) := HP.out.le
  have HN : Hid (SpotsAt w AN p.ns) := HP.out.n
  simp only [PcA.val] at HC HG ⊢
  obtain ⟨i0, hi0, hz0, hz1, hz2⟩ := info_parts spot_info
  go_enter Tryz.func10, Tryz.ntmps10
  go_wp2_with fail
  refine (HC.out _ ((Ext.refl _).alloc _)).mono ?_
  rintro e w0 ⟨v, rfl, h1, h2, he0⟩
  have HB0 : Hid (Blk 27 w0 w.heap.size [.string nm, .slice AE nE cE, .int .i64 gr, .slice AN nN cN, .slice AC nC cC, .slice AW nW cW, .bool mt]) := (Blk.new' rfl).ext he0
  have HX0 := Lib.hid (((Ext.refl w).alloc _).trans he0)
  by_cases hz : plE p m = 0
  rotate_left
  · have hv := h2 hz
    subst hv
    have hzb : (plE p m != 0) = true := by simp [hz]
    obtain ⟨E, hE⟩ : ∃ E, E = plE p m := ⟨_, rfl⟩
    rw [← hE] at hzb hz ⊢
    have HE := Lib.hid hE; have HZ := Lib.hid hz; clear hE h1 h2 hz he0
    go_wp2_with fail
    go_ret2
    exact ⟨_, by rw [← HE.out]; rfl, fun h => absurd (HE.out.trans h) HZ.out, fun _ => rfl, HX0.out⟩
  have hOI := h1 hz
  have HOK := Lib.hid (plE_zero.1 hz)
  obtain ⟨A1, c1', hvf, hI1, _⟩ := OwnI.slice' (n := nN) hOI (by rw [plL_len]; exact HLN.out)
  subst hvf
  have HI0 := Lib.hid hI1; have HPZ := Lib.hid hz
  rw [hz]
  clear h1 h2 hz hOI hI1 he0
  have h16 : nN ≤ 16 := by rw [← HLN.out]; exact HOK.out.n
  obtain ⟨c0, c1, c2, c3, c4, c5, c6⟩ := blk7 HB0.out
  go_wp2_with fail
  refine (HG.out _ HX0.out).mono ?_
  rintro e w1 ⟨v, rfl, hv, _, he1⟩
  rw [HOK.out.g]
  obtain ⟨A2, c2', hvf, hE2, _, _⟩ := OwnE.slice' (n := nE) (hv HOK.out.g) (by rw [gradedE_len]; exact HLE.out)
  subst hvf
  have HE2 := Lib.hid hE2; have HI1 := Lib.hid (HI0.out.ext he1)
  have HX1 := Lib.hid (HX0.out.trans he1); have HB1 := Lib.hid (HB0.out.ext he1)
  clear c0 c1 c2 c3 c4 c5 c6 he1 hv hE2 HI0 HB0
  go_wp2_with fail
  go_loopw [10, 11] (fun v i wr => ∃ k : Nat, k ≤ nN ∧ i = .int .i64 k ∧ OwnT 57 wr w1.heap.size v (spTo p m k) ∧ Ext w1 wr) (fun _ i _ => nN - (intOf i).toNat)
  case atStart => exact ⟨0, Nat.zero_le _, rfl, World.ownsRow_nil _ _ _ _, Ext.refl _⟩
  case round =>
    obtain ⟨k, hk, rfl, ho, hx⟩ := hrel
    have hlk := spTo_len p m k
    obtain ⟨LK, hLK⟩ : ∃ LK, LK = spTo p m k := ⟨_, rfl⟩
    rw [← hLK] at ho hlk
    have HLKL := Lib.hid hlk
    have HLKE := Lib.hid hLK; have HO := Lib.hid ho; have HX := Lib.hid hx; clear hLK ho hx hlk
    obtain ⟨wq, rfl⟩ : ∃ wq : World, wq = wr := ⟨_, rfl⟩
    have HXw := Lib.hid (HX1.out.trans HX.out)
    by_cases hlt : k < nN
    · have hkl : k < p.ns.length := by rw [HLN.out]; exact hlt
      have HNK := Lib.hid (HOK.out.i k hkl)
      have HSPK := Lib.hid (sp_ok HOK.out hkl)
      have HPB := Lib.hid (plV_bd HNK.out)
      obtain ⟨bn, on, hAN, n0, _⟩ := (HN.out.ext HXw.out).g (k := k) hkl
      subst hAN
      obtain ⟨D, hD⟩ := Int.eq_ofNat_of_zero_le HNK.out.e0
      have hDl : D < p.es.length := by have := HNK.out.e1; omega
      have hDn : D < nE := by rw [← HLE.out]; exact hDl
      rw [hD] at n0
      have HDT : Hid ((gS p.ns k).1.toNat = D) := by show _ = _; rw [hD]; simp
      have b3 := (HB1.out.ext HX.out).cell 3
      simp only [List.getElem?_cons_succ, List.getElem?_cons_zero] at b3
      obtain ⟨bg, og, LG, cG, hAG, g0, g1, hSG, _, _⟩ := (HE2.out.ext HX.out).g (k := D) (by rw [gradedE_len]; exact hDl)
      subst hAG
      obtain ⟨bp, op, hAP, p0⟩ := (HI1.out.ext HX.out).g (k := k) (by rw [plL_len]; exact hkl)
      subst hAP
      rw [plL_get hkl] at p0
      have HSPe : Hid (spS p m k = alongS (gE (gradedE p.es p.cs m) D).2 (plV p m k)) := by show _ = _; unfold spS; rw [HDT.out]
      have hAE0 := HSPK.out.1
      rw [HDT.out] at hAE0
      obtain ⟨lg, hlg⟩ : ∃ lg, lg = (gE (gradedE p.es p.cs m) D).2 := ⟨_, rfl⟩
      rw [← hlg] at g1 hSG HSPe hAE0
      clear hlg g0 hD
      obtain ⟨ng, hng⟩ : ∃ ng, ng = lg.length := ⟨_, rfl⟩
      rw [← hng] at g1
      obtain ⟨PV, hPV⟩ : ∃ PV, PV = plV p m k := ⟨_, rfl⟩
      rw [← hPV] at p0 HSPe hAE0
      clear hPV
      obtain ⟨SP, hSP⟩ : ∃ SP, SP = spS p m k := ⟨_, rfl⟩
      rw [← hSP] at HSPe
      have HSPd := Lib.hid hSP; clear hSP
      have HAP : Hid (∀ W : World, Ext wq W → Calls Tryz.prog 24 #[.slice LG ng cG, .int .i64 PV] W fun e w' => e = .returned (.tuple #[SV SP, .int .i64 0]) ∧ Ext W w') := fun W h => by
        have := ralong_any LG ng cG lg PV W (hSG.ext h) hng.symm
        rw [hAE0] at this
        have e : alongV lg PV = SP := by unfold alongV; rw [hAE0, if_neg (by decide)]; exact HSPe.out.symm
        rwa [e] at this
      clear hSG hng hAE0
      have hkk : (k : Int) < nN := by omega
      have hkk0 : (0 : Int) ≤ k := by omega
      have hDD : (D : Int) < nE := by omega
      have hDD0 : (0 : Int) ≤ D := by omega
      go_upto_region 9 with fail
      go_cut [12, 13] from 35 to 52 (fun pt ev wc => ∃ pb, pt = .pointer (some ⟨pb, 0, none⟩) ∧ ev = .int .i64 0 ∧ Blk 57 wc pb [.int .i64 SP.1, .int .i64 SP.2] ∧ Ext wq wc)
      case first =>
        have keep : ∀ W2 : World, Ext wq W2 → (Ext wq W2 ∧ W2.cell? ⟨w.heap.size, 3, none⟩ = some (.slice (some ⟨bn, on, none⟩) nN cN) ∧ W2.cell? ⟨bn, on + k * 2, none⟩ = some (.int .i64 (D : Int)) ∧ W2.cell? ⟨bg, og + D * 2 + 1, none⟩ = some (.slice LG ng cG) ∧ W2.cell? ⟨bp, op + k, none⟩ = some (.int .i64 PV)) := fun W2 hx => ⟨hx, hx.cell b3, hx.cell n0, hx.cell g1, hx.cell p0⟩
        have KEEP := Lib.hid keep; clear keep b3 n0 g1 p0
        go_region_held3 (fun W => Ext wq W ∧ W.cell? ⟨w.heap.size, 3, none⟩ = some (.slice (some ⟨bn, on, none⟩) nN cN) ∧ W.cell? ⟨bn, on + k * 2, none⟩ = some (.int .i64 (D : Int)) ∧ W.cell? ⟨bg, og + D * 2 + 1, none⟩ = some (.slice LG ng cG) ∧ W.cell? ⟨bp, op + k, none⟩ = some (.int .i64 PV))
          (first | (with_reducible exact KEEP.out _ (Ext.setCell (Ext.setCell hx2 (p := ⟨wq.heap.size, 0, none⟩) (Nat.le_refl _) _) (p := ⟨wq.heap.size, 1, none⟩) (Nat.le_refl _) _)) | (with_reducible assumption) | (with_reducible exact KEEP.out _ (Ext.drew (Ext.refl _))) | (with_reducible exact KEEP.out _ (Ext.drew (Ext.alloc (Ext.refl _) _))) | (with_reducible exact KEEP.out _ hx2) | (with_reducible exact KEEP.out _ (Ext.alloc hx2 _)) | fail)
          (first
            | (go_at_call 24; (with_reducible refine (HAP.out wq.drew (Ext.drew (Ext.refl _))).mono ?_); rintro e w2 ⟨rfl, he2⟩; have hx2 : Ext wq w2 := (Ext.drew (Ext.refl _)).trans he2)
            | (go_at_call 24; (with_reducible refine (HAP.out (wq.alloc (.cells #[.int .i64 0, .int .i64 0] 57)).drew (Ext.drew (Ext.alloc (Ext.refl _) _))).mono ?_); rintro e w2 ⟨rfl, he2⟩; have hx2 : Ext wq w2 := (Ext.drew (Ext.alloc (Ext.refl _) _)).trans he2; have hB1 : Blk 57 w2 wq.heap.size [.int .i64 0, .int .i64 0] := Blk.ext (Blk.ext (Blk.new' rfl) (Ext.drew (Ext.refl _))) he2; obtain ⟨s0, s1⟩ := blk2 hB1; have e0 := hB1.frozen 0; have e1 := hB1.frozen 1; have HB1' := Lib.hid hB1; clear hB1)
            | fail)
        all_goals
          go_wp2_with fail
          go_meet
        all_goals first
          | exact ⟨w2.heap.size, rfl, rfl, Blk.new' rfl, hx2.alloc _⟩
          | exact ⟨wq.heap.size, rfl, rfl, (HB1'.out.set 0 (.int .i64 SP.1)).set 1 (.int .i64 SP.2), (hx2.setCell (Nat.le_refl _) _).setCell (Nat.le_refl _) _⟩
          | fail
      case rest =>
        obtain ⟨pb, hpb, hev, hBp, hxc⟩ := hcut
        subst hpb; subst hev
        clear b3 n0 g1 p0
        obtain ⟨wz, rfl⟩ : ∃ wz : World, wz = wc := ⟨_, rfl⟩
        have HXz := Lib.hid (HX.out.trans hxc)
        have HOz := Lib.hid (own_ext HO.out hxc)
        obtain ⟨q0, q1⟩ := blk2 hBp
        have hbb : w1.heap.size ≤ wz.heap.size := HXz.out.size
        clear hBp hxc
        obtain ⟨Y1, Y2⟩ := SP
        simp only at q0 q1
        have hlk := HLKL.out
        have H63 : Hid (LK.length + 1 ≤ maxLen) := by show _ ≤ _; unfold maxLen; omega
        have H64 : Hid ((LK.length + 1) * 16 ≤ 140737488355328) := by show _ ≤ _; omega
        have HC6 : Hid (w1.heap.size ≤ (wz.alloc (.cells #[.int .i64 Y1, .int .i64 Y2] 57)).heap.size) := by show _ ≤ _; simp; omega
        clear hlk
        go_wp2_with (at_builtin; refine wpList_append_own _ rfl (.tmp 53) (.tmp 55) 24 rfl w1.heap.size 57 i0 (.agg #[.int .i64 0, .int .i64 0]) 2 16 Tryz.underlying24 hi0 hz0 hz1 hz2 rfl (by decide) _ LK.length (scells LK) rfl (World.ownsRow.alloc HOz.out _) ⟨wz.heap.size, 0, none⟩ 1 1 [.int .i64 Y1, .int .i64 Y2] rfl rfl (World.news_of_block (cs := #[.int .i64 Y1, .int .i64 Y2]) (t := 57) (fr := (0, 0)) (heap_alloc_new wz _)) (by simp [Value.oneCell']) H63.out H64.out HC6.out ?_)
        intro v' w4 hown' hgrow _
        have hO' : OwnT 57 w4 w1.heap.size v' (spTo p m (k + 1)) := by
          rw [spTo_succ, ← HLKE.out, ← HSPd.out]
          unfold OwnT
          rw [List.length_append, scells_append]
          exact hown'
        have hx' : Ext w1 w4 := (HXz.out.alloc _).grown hgrow (fun g hg => (World.ownsRow.lt HO.out g hg).1)
        have HO' := Lib.hid hO'; clear hO' hown' hgrow
        go_wp2_with fail
        go_roundw
        case rel => exact ⟨k + 1, by omega, by go_num, HO'.out, hx'⟩
        case measure => simp [intOf]; omega
    · obtain rfl : k = nN := by omega
      go_wp2_with fail
      go_ret2
      refine ⟨_, by rw [HPZ.out]; rfl, fun _ => ?_, fun h => absurd HPZ.out h, HXw.out⟩
      unfold spL
      rw [HLN.out, ← HLKE.out]
      exact own_base_le HO.out HX1.out.size
end Go.Proofs.YtliijigdbpmpaaaGreat
/- garmentref11.Same: equal lists of spots. No conditions. -/
namespace Go.Proofs.YtliijigdbpmpaaaGreat
open Go.RowKit
/- equal lists of spots -/
theorem R11Same_ne (A B : Option Addr) (n m c d : Nat) (w : World) (hnm : ((n : Int) != m) = true) :
    Calls Tryz.prog 12 #[.slice A n c, .slice B m d] w fun e w' => e = .returned (.bool false) ∧ Ext w w' := by
  go_enter Tryz.func12, Tryz.ntmps12
  go_wp2
  go_ret
  exact ⟨rfl, Ext.refl _⟩
theorem take_same_succ {l m : List Spot} {k : Nat} (hl : k < l.length) (hm : k < m.length) (h : l.take k = m.take k) (he : l[k] = m[k]) : l.take (k + 1) = m.take (k + 1) := by
  rw [take_succ _ _ hl, take_succ _ _ hm, h, he]
set_option maxHeartbeats 400000 in
theorem R11Same_len (A B : Option Addr) (n c d : Nat) (l m : List Spot) (w : World) (ha : SpotsAt w A l) (hb : SpotsAt w B m) (hl : l.length = n) (hm : m.length = n) (hn : n ≤ 9223372036854775807) :
    Calls Tryz.prog 12 #[.slice A n c, .slice B n d] w fun e w' => e = .returned (.bool (decide (l = m))) ∧ Ext w w' := by
  have HL := Lib.hid hl; clear hl
  have HM := Lib.hid hm; clear hm
  have HA := Lib.hid ha; clear ha
  have HB := Lib.hid hb; clear hb
  go_enter Tryz.func12, Tryz.ntmps12
  go_wp2
  go_loopw [5] (fun i wr => ∃ k : Nat, k ≤ n ∧ i = .int .i64 k ∧ l.take k = m.take k ∧ ∃ q, wr = w.drewN q) (fun i _ => n - (intOf i).toNat)
  case atStart => exact ⟨0, Nat.zero_le _, rfl, rfl, 0, rfl⟩
  case round =>
    obtain ⟨k, hk, rfl, ht, q, rfl⟩ := hrel
    have HT := Lib.hid ht; clear ht
    by_cases hlt : k < n
    · have hkl : k < l.length := by rw [HL.out]; exact hlt
      have hkm : k < m.length := by rw [HM.out]; exact hlt
      obtain ⟨b, off, rfl, hc0, hc1⟩ := HA.out k hkl
      obtain ⟨b', off', rfl, hd0, hd1⟩ := HB.out k hkm
      by_cases heq : l[k] = m[k]
      · have hq : eqS l[k].1 l[k].2 m[k].1 m[k].2 = true := (eqS_iff _ _).2 heq
        have HE := Lib.hid heq; clear heq
        go_wp2
        go_quiet (fail)
        go_wp2
        go_roundw
        case rel => exact ⟨k + 1, by omega, by go_num, take_same_succ hkl hkm HT.out HE.out, _, rfl⟩
        case measure => simp [intOf]; omega
      · have hq : eqS l[k].1 l[k].2 m[k].1 m[k].2 = false := by rw [Bool.eq_false_iff]; intro h; exact heq ((eqS_iff _ _).1 h)
        have HE := Lib.hid heq; clear heq
        go_wp2
        go_quiet (fail)
        go_wp2
        go_ret
        exact ⟨ret_bool (by symm; rw [decide_eq_false_iff_not]; rintro rfl; exact HE.out rfl), Ext.drewN (Ext.drewN (Ext.refl _) _) _⟩
    · go_wp2
      go_ret
      exact ⟨ret_bool (by
        have h := HT.out
        rw [List.take_of_length_le (by rw [HL.out]; omega), List.take_of_length_le (by rw [HM.out]; omega)] at h
        simp [h]), Ext.drewN (Ext.refl _) _⟩
theorem R11Same_any (A B : Option Addr) (c d : Nat) (l m : List Spot) (w : World) (ha : SpotsAt w A l) (hb : SpotsAt w B m) (hn' : m.length ≤ 9223372036854775807) :
    Calls Tryz.prog 12 #[.slice A l.length c, .slice B m.length d] w fun e w' => e = .returned (.bool (decide (l = m))) ∧ Ext w w' := by
  by_cases h : l.length = m.length
  · rw [h]; exact R11Same_len A B _ c d l m w ha hb h rfl hn'
  · rw [decide_eq_false (p := l = m) (by rintro rfl; exact h rfl)]
    exact R11Same_ne A B _ _ c d w (by simp; omega)

end Go.Proofs.YtliijigdbpmpaaaGreat
/- R21.Light, said of a piece -/
namespace Go.Proofs.YtliijigdbpmpaaaGreat
open Go.RowKit
structure LtP (p : Pc) (most : Nat) : Prop where
  e : p.es.length ≤ 20
  c : p.cs.length ≤ 20
  w : p.ws.length ≤ 20
  n : p.ns.length ≤ 20
  l : ∀ k, k < p.es.length → (gE p.es k).2.length ≤ most ∧ (gE p.es k).1.size ≤ 100
theorem lightP_any (a : PcA) (p : Pc) (most : Nat) (hm : most ≤ 1000) (w : World) (hp : PcAt w a p) :
    Calls Tryz.prog 17 #[a.val, .int .i64 (most : Int)] w fun e w' => ∃ b, e = .returned (.bool b) ∧ Ext w w' ∧ (b = true → LtP p most) :=
  (light_any a.nm a.AE a.AN a.AC a.AW a.nE a.cE a.nN a.cN a.nC a.cC a.nW a.cW a.gr a.mt p.es w most hm hp.e hp.le).mono fun e w' ⟨b, h1, h2, h3⟩ => ⟨b, h1, h2, fun hb => by
    obtain ⟨g1, g2, g3, g4, g5⟩ := h3 hb
    exact ⟨g1, by rw [hp.lc]; exact g2, by rw [hp.li]; exact g3, by rw [hp.ln]; exact g4, g5⟩⟩
end Go.Proofs.YtliijigdbpmpaaaGreat
/- garmentref23.Light -/
namespace Go.Proofs.YtliijigdbpmpaaaGreat
open Go.RowKit
def RetL3 (w : World) (p : Pc) (e : Ending) (w' : World) : Prop := ∃ b, e = .returned (.bool b) ∧ Ext w w' ∧ (b = true → LtP p 60)
set_option maxRecDepth 100000 in
set_option maxHeartbeats 1600000 in
theorem light3_any (a : PcA) (p : Pc) (w : World) (hp : PcAt w a p) :
    Calls Tryz.prog 5 #[a.val] w (RetL3 w p) := by
  have HL := Lib.hid (fun W (h : Ext w W) => lightP_any a p 60 (by omega) W (hp.ext h))
  clear hp
  obtain ⟨nm, AE, nE, cE, gr, AN, nN, cN, AC, nC, cC, AW, nW, cW, mt⟩ := a
  simp only [PcA.val] at HL ⊢
  go_enter Tryz.func5, Tryz.ntmps5
  go_wp2_with fail
  refine (HL.out _ ((Ext.refl _).alloc _)).mono ?_
  rintro e w1 ⟨b, rfl, he, hb⟩
  have HX := Lib.hid (((Ext.refl w).alloc _).trans he); have HB := Lib.hid hb
  clear he hb
  go_wp2_with fail
  go_ret
  exact ⟨b, rfl, HX.out, HB.out⟩
end Go.Proofs.YtliijigdbpmpaaaGreat
/- NotchPlaced returns true -/
namespace Go.Proofs.YtliijigdbpmpaaaGreat
open Go.RowKit
def plQ (p : Pc) (m : Int) : List Int := if plE p m = 0 then plL p m else []
def spQ (p : Pc) (m : Int) : List Spot := if plE p m = 0 then spL p m else []
theorem plQ_len (p : Pc) (m : Int) : (plQ p m).length ≤ p.ns.length := by unfold plQ; split <;> simp [plL_len]
theorem spQ_len (p : Pc) (m : Int) : (spQ p m).length ≤ p.ns.length := by unfold spQ; split <;> simp [spL_len]
theorem retPd_form {w w' : World} {p : Pc} {m : Int} {e : Ending} (h : RetPd w p m e w') : ∃ A c, e = .returned (.tuple #[.slice A (plQ p m).length c, .int .i64 (plE p m)]) ∧ IntsAt w' A (plQ p m) ∧ Ext w w' := by
  obtain ⟨v, h1, h2, h3, h4⟩ := h
  by_cases hz : plE p m = 0
  · have e1 : plQ p m = plL p m := by unfold plQ; rw [if_pos hz]
    obtain ⟨A, c, hv, hI, _⟩ := OwnI.slice' (n := (plL p m).length) (h2 hz) rfl
    subst hv
    rw [e1]; exact ⟨A, c, h1, hI, h4⟩
  · have e1 : plQ p m = [] := by unfold plQ; rw [if_neg hz]
    have hv := h3 hz
    subst hv
    rw [e1]; exact ⟨none, 0, h1, IntsAt.nil, h4⟩
theorem retSp_form {w w' : World} {p : Pc} {m : Int} {e : Ending} (h : RetSp w p m e w') : ∃ A c, e = .returned (.tuple #[.slice A (spQ p m).length c, .int .i64 (plE p m)]) ∧ SpotsAt w' A (spQ p m) ∧ Ext w w' := by
  obtain ⟨v, h1, h2, h3, h4⟩ := h
  by_cases hz : plE p m = 0
  · have e1 : spQ p m = spL p m := by unfold spQ; rw [if_pos hz]
    obtain ⟨A, c, hv, hI, _⟩ := OwnT.slice' (n := (spL p m).length) (h2 hz) rfl
    subst hv
    rw [e1]; exact ⟨A, c, h1, hI, h4⟩
  · have e1 : spQ p m = [] := by unfold spQ; rw [if_neg hz]
    have hv := h3 hz
    subst hv
    rw [e1]; exact ⟨none, 0, h1, SpotsAt.nil, h4⟩
set_option maxRecDepth 100000 in
set_option maxHeartbeats 3200000 in
theorem placedL_any (a : PcA) (p : Pc) (m : Int) (w : World) (hp : PcAt w a p) :
    Calls Tryz.prog 3 #[a.val, .int .i64 m] w fun e w' => e = .returned (.bool true) ∧ Ext w w' := by
  have HP := Lib.hid hp; clear hp
  have H1 := Lib.hid (fun W (h : Ext w W) => light3_any a p W (HP.out.ext h))
  have H2 := Lib.hid (fun W (h : Ext w W) => placedX_any a p m W (HP.out.ext h))
  have H3 := Lib.hid (fun W (h : Ext w W) (hl : LtP p 60) => rplaced_any a p m W (HP.out.ext h) (by have := hl.e; omega) (by have := hl.c; omega))
  have H4 := Lib.hid (fun W (h : Ext w W) => spots_any a p m W (HP.out.ext h))
  have H5 := Lib.hid (fun W (h : Ext w W) (hl : LtP p 60) => rspots_any a p m W (HP.out.ext h) (by have := hl.e; omega) (by have := hl.c; omega))
  obtain ⟨nm, AE, nE, cE, gr, AN, nN, cN, AC, nC, cC, AW, nW, cW, mt⟩ := a
  simp only [PcA.val] at H1 H2 H3 H4 H5 ⊢
  clear HP
  go_enter Tryz.func3, Tryz.ntmps3
  go_wp2_with fail
  refine (H1.out _ ((Ext.refl _).alloc _)).mono ?_
  rintro e w1 ⟨b, rfl, he1, hb⟩
  have HB1 : Hid (Blk 27 w1 w.heap.size [.string nm, .slice AE nE cE, .int .i64 gr, .slice AN nN cN, .slice AC nC cC, .slice AW nW cW, .bool mt]) := (Blk.new' rfl).ext he1
  have HX1 := Lib.hid (((Ext.refl w).alloc _).trans he1)
  clear he1
  cases b
  · clear hb
    go_wp2_with fail
    refine (awake_any _).mono ?_
    rintro e w2 ⟨rfl, he2⟩
    go_wp2_with fail
    go_ret
    exact ⟨rfl, HX1.out.trans he2⟩
  have HLT := Lib.hid (hb rfl); clear hb
  have hl1 := plQ_len p m; have hl2 := spQ_len p m; have hl3 := HLT.out.n
  have HL1 : Hid ((plQ p m).length ≤ 1000000) := by show _ ≤ _; omega
  have HL2 : Hid ((spQ p m).length ≤ 9223372036854775807) := by show _ ≤ _; omega
  clear hl1 hl2 hl3
  obtain ⟨c0, c1, c2, c3, c4, c5, c6⟩ := blk7 HB1.out
  go_wp2_with fail
  refine (H2.out _ HX1.out).mono ?_
  intro e w2 hr
  obtain ⟨A2, d2, he, hI2, he2⟩ := retPd_form hr
  subst he
  have HX2 := Lib.hid (HX1.out.trans he2); have HB2 := Lib.hid (HB1.out.ext he2); have HI2 := Lib.hid hI2
  clear c0 c1 c2 c3 c4 c5 c6 he2 hI2 hr
  obtain ⟨c0, c1, c2, c3, c4, c5, c6⟩ := blk7 HB2.out
  obtain ⟨LP, hLP⟩ : ∃ L, L = plQ p m := ⟨_, rfl⟩
  obtain ⟨LS, hLS⟩ : ∃ L, L = spQ p m := ⟨_, rfl⟩
  obtain ⟨E, hE⟩ : ∃ E, E = plE p m := ⟨_, rfl⟩
  obtain ⟨n, hn⟩ : ∃ n, n = LP.length := ⟨_, rfl⟩
  obtain ⟨k, hk⟩ : ∃ k, k = LS.length := ⟨_, rfl⟩
  have HR3 : Hid (∀ W, Ext w W → Calls Tryz.prog 8 #[.agg #[.string nm, .slice AE nE cE, .int .i64 gr, .slice AN nN cN, .slice AC nC cC, .slice AW nW cW, .bool mt], .int .i64 m] W fun e w' => ∃ A c, e = .returned (.tuple #[.slice A n c, .int .i64 E]) ∧ IntsAt w' A LP ∧ Ext W w') := fun W h => (H3.out W h HLT.out).mono fun e w' hr => by rw [hn, hE, hLP]; exact retPd_form hr
  have HR4 : Hid (∀ W, Ext w W → Calls Tryz.prog 9 #[.agg #[.string nm, .slice AE nE cE, .int .i64 gr, .slice AN nN cN, .slice AC nC cC, .slice AW nW cW, .bool mt], .int .i64 m] W fun e w' => ∃ A c, e = .returned (.tuple #[.slice A k c, .int .i64 E]) ∧ SpotsAt w' A LS ∧ Ext W w') := fun W h => (H4.out W h).mono fun e w' hr => by rw [hk, hE, hLS]; exact retSp_form hr
  have HR5 : Hid (∀ W, Ext w W → Calls Tryz.prog 10 #[.agg #[.string nm, .slice AE nE cE, .int .i64 gr, .slice AN nN cN, .slice AC nC cC, .slice AW nW cW, .bool mt], .int .i64 m] W fun e w' => ∃ A c, e = .returned (.tuple #[.slice A k c, .int .i64 E]) ∧ SpotsAt w' A LS ∧ Ext W w') := fun W h => (H5.out W h HLT.out).mono fun e w' hr => by rw [hk, hE, hLS]; exact retSp_form hr
  rw [← hLP] at HI2 HL1
  rw [← hLS] at HL2
  rw [← hLP, ← hE, ← hn]
  have HN := Lib.hid hn.symm; have HK := Lib.hid hk.symm
  rw [HN.out] at HL1
  rw [HK.out] at HL2
  clear hLP hLS hE hn hk H2 H3 H4 H5
  go_wp2_with fail
  refine (HR3.out _ HX2.out).mono ?_
  rintro e w3 ⟨A3, d3, rfl, hI3, he3⟩
  have HX3 := Lib.hid (HX2.out.trans he3); have HB3 := Lib.hid (HB2.out.ext he3); have HI3 := Lib.hid hI3; have HI23 := Lib.hid (HI2.out.ext he3)
  clear c0 c1 c2 c3 c4 c5 c6 he3 hI3
  obtain ⟨c0, c1, c2, c3, c4, c5, c6⟩ := blk7 HB3.out
  go_wp2_with fail
  refine (HR4.out _ HX3.out).mono ?_
  rintro e w4 ⟨A4, d4, rfl, hI4, he4⟩
  have HX4 := Lib.hid (HX3.out.trans he4); have HB4 := Lib.hid (HB3.out.ext he4); have HI4 := Lib.hid hI4; have HE34 := Lib.hid he4
  clear c0 c1 c2 c3 c4 c5 c6 he4 hI4
  obtain ⟨c0, c1, c2, c3, c4, c5, c6⟩ := blk7 HB4.out
  go_wp2_with fail
  refine (HR5.out _ HX4.out).mono ?_
  rintro e w5 ⟨A5, d5, rfl, hI5, he5⟩
  have HX5 := Lib.hid (HX4.out.trans he5); have HI5 := Lib.hid hI5; have HE45 := Lib.hid he5
  clear c0 c1 c2 c3 c4 c5 c6 he5 hI5
  have s1 : (E == E) = true := by simp
  go_wp2_with fail
  refine (sameInts_eq A2 A3 n d2 d3 LP _ (HI23.out.ext (HE34.out.trans HE45.out)) (HI3.out.ext (HE34.out.trans HE45.out)) HN.out HL1.out).mono ?_
  rintro e w6 ⟨rfl, he6⟩
  have HX6 := Lib.hid (HX5.out.trans he6)
  have HS4 := Lib.hid (HI4.out.ext (HE45.out.trans he6)); have HS5 := Lib.hid (HI5.out.ext he6)
  clear he6
  go_wp2_with fail
  refine (R11Same_len A4 A5 k d4 d5 LS LS _ HS4.out HS5.out HK.out HK.out HL2.out).mono ?_
  rintro e w7 ⟨rfl, he7⟩
  have hdt : decide (LS = LS) = true := decide_eq_true rfl
  rw [hdt]
  clear hdt
  go_wp2_with fail
  refine (awake_any _).mono ?_
  rintro e w8 ⟨rfl, he8⟩
  go_wp2_with fail
  go_ret
  exact ⟨rfl, (HX6.out.trans he7).trans he8⟩
end Go.Proofs.YtliijigdbpmpaaaGreat
/- the arguments opened: a piece as PcAt -/
namespace Go.Proofs.YtliijigdbpmpaaaGreat
open Go.ChangeShapes Go.WideShapes Go.ChangeAt Go.RowKit Go.Deep Go.Joins
section
variable {H : Type} {enc : TypeId × Value → H} {w : World} {base : Nat} {spare : Nat → Bool} {held : Bool}
set_option maxRecDepth 100000 in
theorem pc_open {r : Reach} {b0 : Nat} {v : Value} {d : DataW H} {p : List MemPlace} (hv : Value.okWide Tryz.prog w r b0 27 v) (h : DataW.Trod enc Tryz.prog w base spare held 27 v d p) :
    ∃ a q, v = PcA.val a ∧ PcAt w a q ∧ WfP q := by
  obtain ⟨cs, rfl, hsz⟩ := okWide_struct Tryz.underlying27 hv
  obtain ⟨l⟩ := cs
  obtain ⟨fuel, hf⟩ := h
  obtain ⟨a, q, e, h1, h2⟩ := piece_trodW hf
  have e' : l = PcA.cells a := e
  subst e'
  exact ⟨a, q, rfl, h1, h2⟩
end
end Go.Proofs.YtliijigdbpmpaaaGreat
namespace Go.Proofs.YtliijigdbpmpaaaGreat
open Go.ChangeShapes Go.WideShapes Go.ChangeAt Go.RowKit Go.Deep Go.Joins
set_option maxRecDepth 100000 in
theorem notchPlaced_lifted (os : Os) (started : os.Started) (H : Type) (enc : TypeId × Value → H) :
    ReturnsInHanded {} Tryz.checked os 3 .any (Rows.notchPlacedSpec.pre6 enc Tryz.prog Tryz.f3 Rows.notchPlacedRow.domain false) (Rows.notchPlacedSpec.post enc Tryz.prog Tryz.f3 false true false false) := by
  refine returnsInHanded_of_change (C := Tryz.checked) Tryz.own started (by kernel_rfl) Tryz.func3
    (ChangeSpec.witness6 (enc := enc) (C := Tryz.checked) false ⟨#[], #[.agg #[.string ⟨#[]⟩, .slice none 0 0, .int .i64 0, .slice none 0 0, .slice none 0 0, .slice none 0 0, .bool false], .int .i64 0], []⟩ 8 (by kernel_rfl) (by kernel_rfl) (by kernel_rfl) (by kernel_rfl)) ?_
  intro W base args ds gs before hval0 hW hcnd _
  have hval : ∀ (j : Nat) t v, Tryz.f3.params[j]? = some t → args[j]? = some v → Value.okWide Tryz.prog W .any base t v := hval0
  have hW' := hW
  obtain ⟨p, q, hA0, hV, rfl, hfz, hnd⟩ := hW
  have hA : DataW.TrodAll enc Tryz.prog W 0 (fun _ => true) true Tryz.f3.params.toList args.toList ds p := hA0
  rw [Tryz.params3] at hA hval
  obtain ⟨v0, vs0, d0, ds0, p0, q0, hargs, rfl, rfl, h0, r0⟩ := trodAll_cons hA
  obtain ⟨v1, vs1, d1, ds1, p1, q1, rfl, rfl, rfl, h1, r1⟩ := trodAll_cons r0
  obtain ⟨rfl, rfl, rfl⟩ := trodAll_nil r1
  obtain rfl : args = #[v0, v1] := by cases args; simp_all
  obtain ⟨rfl, rfl⟩ := trodVars_none hV
  have k0 := h0
  have lt0 : ∀ x ∈ p0, x.block < W.heap.size := by obtain ⟨m, hm⟩ := k0; exact DataW.trod_lt m _ _ _ hm
  obtain ⟨a0, s0, hv0, hS0, wS0⟩ := pc_open (hval 0 27 v0 rfl rfl) h0
  subst hv0
  have k1 := h1
  have lt1 : ∀ x ∈ p1, x.block < W.heap.size := by obtain ⟨m, hm⟩ := k1; exact DataW.trod_lt m _ _ _ hm
  obtain ⟨a1, hv1, wf1⟩ := int_open (hval 1 3 v1 rfl rfl) h1
  subst hv1
  clear hA0 hval0
  refine (placedL_any a0 s0 a1 W hS0).mono fun e W' ⟨he, bel⟩ => ?_
  subst he
  exact ⟨_, rfl, _, _, _, [], _, [], hW', trodAll_mk1 (shut_bool Tryz.underlying4 _), (trodAll_cons_mk (Below.trod Tryz.laidOut (by kernel_rfl) (of_decide_eq_true (by kernel_rfl)) k0 bel lt0) (trodAll_cons_mk (Below.trod Tryz.laidOut (by kernel_rfl) (of_decide_eq_true (by kernel_rfl)) k1 bel lt1) trodAll_mk0)), rfl, Below.frame bel _, fun h => by cases h⟩
theorem notchPlaced_holds : Rows.NotchPlacedSaid :=
  OpenClaim.holds_of_wide 3 Tryz.f3 rfl rfl rfl rfl rfl rfl rfl ⟨rfl, rfl, rfl, rfl, rfl⟩ rfl rfl rfl rfl rfl (by kernel_rfl) Tryz.func3 (by kernel_rfl)
    (of_decide_eq_true (by kernel_rfl)) (by unfold Func.isWrapper; first | (rw [if_pos (by decide +kernel)]; kernel_rfl) | (rw [if_neg (by decide +kernel)]; exact ⟨rfl, rfl⟩))
    (fun os started H enc _ => notchPlaced_lifted os started H enc)
end Go.Proofs.YtliijigdbpmpaaaGreat

