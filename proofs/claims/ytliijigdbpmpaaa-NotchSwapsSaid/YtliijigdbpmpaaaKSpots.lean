/- notch.Spots -/
import Derived.Deep.AppendLies
import Derived.Test.YtliijigdbpmpaaaKPlaced
import Derived.Test.YtliijigdbpmpaaaKLoc
namespace Go.Proofs.Ytliijigdbpmpaaa
open Go.RowKit
def RetSp (w : World) (p : Pc) (m : Int) (e : Ending) (w' : World) : Prop :=
  ∃ v, e = .returned (.tuple #[v, .int .i64 (plE p m)]) ∧ (plE p m = 0 → OwnT 43 w' w.heap.size v (spL p m)) ∧ (plE p m ≠ 0 → v = .slice none 0 0) ∧ Ext w w'
set_option maxRecDepth 100000 in
set_option maxHeartbeats 3200000 in
theorem spots_any (a : PcA) (p : Pc) (m : Int) (w : World) (hp : PcAt w a p) :
    Calls Try.prog 15 #[a.val, .int .i64 m] w (RetSp w p m) := by
  have HC := Lib.hid (fun W (h : Ext w W) => placed_any a p m W (hp.ext h))
  have HP := Lib.hid hp; clear hp
  obtain ⟨nm, AE, nE, cE, gr, AN, nN, cN, AC, nC, cC, AW, nW, cW, mt⟩ := a
  have HLN : Hid (p.ns.length = nN) := HP.out.ln
  have HLE : Hid (p.es.length = nE) := HP.out.le
  have HN : Hid (SpotsAt w AN p.ns) := HP.out.n
  simp only [PcA.val] at HC ⊢
  obtain ⟨i0, hi0, hz0, hz1, hz2⟩ := info_parts spot_info
  go_enter Try.func15, Try.ntmps15
  go_wp2_with fail
  refine (HC.out _ ((Ext.refl _).alloc _)).mono ?_
  rintro e w1 ⟨v, u, rfl, h1, h2, he1⟩
  have HB1 : Hid (Blk 27 w1 w.heap.size [.string nm, .slice AE nE cE, .int .i64 gr, .slice AN nN cN, .slice AC nC cC, .slice AW nW cW, .bool mt]) := (Blk.new' rfl).ext he1
  have HX1 := Lib.hid (((Ext.refl w).alloc _).trans he1)
  by_cases hz : plE p m = 0
  rotate_left
  · obtain ⟨hv, hu⟩ := h2 hz
    subst hv; subst hu
    have hzb : (plE p m != 0) = true := by simp [hz]
    obtain ⟨E, hE⟩ : ∃ E, E = plE p m := ⟨_, rfl⟩
    rw [← hE] at hzb hz ⊢
    have HE := Lib.hid hE; have HZ := Lib.hid hz; clear hE h1 h2 hz he1
    go_wp2_with fail
    go_ret2
    exact ⟨_, by rw [← HE.out]; rfl, fun h => absurd (HE.out.trans h) HZ.out, fun _ => rfl, HX1.out⟩
  obtain ⟨hOI, hOE⟩ := h1 hz
  have HOK := Lib.hid (plE_zero.1 hz)
  obtain ⟨A1, c1', hvf, hI1, _⟩ := OwnI.slice' (n := nN) hOI (by rw [plL_len]; exact HLN.out)
  subst hvf
  obtain ⟨A2, c2', hvf, hE2, _, _⟩ := OwnE.slice' (n := nE) hOE (by rw [gradedE_len]; exact HLE.out)
  subst hvf
  have HI1 := Lib.hid hI1; have HE2 := Lib.hid hE2; have HPZ := Lib.hid hz
  rw [hz]
  clear h1 h2 hz hOI hOE hI1 hE2 he1
  have h16 : nN ≤ 16 := by rw [← HLN.out]; exact HOK.out.n
  obtain ⟨c0, c1, c2, c3, c4, c5, c6⟩ := blk7 HB1.out
  go_wp2_with fail
  clear c0 c1 c2 c3 c4 c5 c6
  go_loopw [9, 27] (fun v i wr => ∃ k : Nat, k ≤ nN ∧ i = .int .i64 k ∧ OwnT 43 wr w1.heap.size v (spTo p m k) ∧ Ext w1 wr) (fun _ i _ => nN - (intOf i).toNat)
  case atStart => exact ⟨0, Nat.zero_le _, rfl, World.ownsRow_nil _ _ _ _, Ext.refl _⟩
  case round =>
    obtain ⟨k, hk, rfl, ho, hx⟩ := hrel
    have hlk := spTo_len p m k
    obtain ⟨LK, hLK⟩ : ∃ LK, LK = spTo p m k := ⟨_, rfl⟩
    rw [← hLK] at ho hlk
    have HLKL := Lib.hid hlk
    have HLKE := Lib.hid hLK; have HO := Lib.hid ho; have HX := Lib.hid hx; clear hLK ho hx hlk
    obtain ⟨wr0, rfl⟩ : ∃ wr0 : World, wr0 = wr := ⟨_, rfl⟩
    have HXw := Lib.hid (HX1.out.trans HX.out)
    by_cases hlt : k < nN
    · have hkl : k < p.ns.length := by rw [HLN.out]; exact hlt
      have HNK := Lib.hid (HOK.out.i k hkl)
      have HSPK := Lib.hid (sp_ok HOK.out hkl)
      have HPB := Lib.hid (plV_bd HNK.out)
      obtain ⟨bn, on, hAN, n0, n1⟩ := (HN.out.ext HXw.out).g (k := k) hkl
      subst hAN
      obtain ⟨D, hD⟩ := Int.eq_ofNat_of_zero_le HNK.out.e0
      have hDl : D < p.es.length := by have := HNK.out.e1; omega
      have hDn : D < nE := by rw [← HLE.out]; exact hDl
      obtain ⟨at', hat⟩ : ∃ x, x = (gS p.ns k).2 := ⟨_, rfl⟩
      rw [hD] at n0
      rw [← hat] at n1
      have HDT : Hid ((gS p.ns k).1.toNat = D) := by show _ = _; rw [hD]; simp
      clear hat
      have hpl := cell_lt n0
      go_upto_region 8 with fail
      refine wp_at fun wq hWq => ?_
      have hNb : Blk 36 wq wr0.heap.size [.int .i64 (D : Int), .int .i64 at'] := by rw [hWq]; exact Blk.new' rfl
      have hxq : Ext wr0 wq := by rw [hWq]; exact (Ext.refl _).alloc _
      have HXq := Lib.hid (HX.out.trans hxq)
      have HXrq := Lib.hid hxq
      obtain ⟨m0, m1⟩ := blk2 hNb
      clear hWq hNb hxq n0 n1 hpl
      obtain ⟨nb, hnb⟩ : ∃ nb, nb = wr0.heap.size := ⟨_, rfl⟩
      rw [← hnb] at m0 m1 ⊢
      clear hnb
      obtain ⟨bg, og, LG, cG, hAG, g0, g1, hSG, _, _⟩ := (HE2.out.ext HXq.out).g (k := D) (by rw [gradedE_len]; exact hDl)
      subst hAG
      obtain ⟨bp, op, hAP, p0⟩ := (HI1.out.ext HXq.out).g (k := k) (by rw [plL_len]; exact hkl)
      subst hAP
      rw [plL_get hkl] at p0
      have HSPe : Hid (spS p m k = alongS (gE (gradedE p.es p.cs m) D).2 (plV p m k)) := by show _ = _; unfold spS; rw [HDT.out]
      have hAE0 := HSPK.out.1
      have hPB2 := HPB.out.2
      rw [HDT.out] at hAE0 hPB2
      have hPVle : plV p m k ≤ 4000000000000000 := by
        have := lengthN_bd (gE (gradedE p.es p.cs m) D).2
        unfold grdN at hPB2
        omega
      obtain ⟨lg, hlg⟩ : ∃ lg, lg = (gE (gradedE p.es p.cs m) D).2 := ⟨_, rfl⟩
      rw [← hlg] at g1 hSG HSPe hAE0
      clear hlg g0 hPB2
      obtain ⟨ng, hng⟩ : ∃ ng, ng = lg.length := ⟨_, rfl⟩
      rw [← hng] at g1
      obtain ⟨PV, hPV⟩ : ∃ PV, PV = plV p m k := ⟨_, rfl⟩
      rw [← hPV] at p0 HSPe hAE0 hPVle
      clear hPV
      obtain ⟨SP, hSP⟩ : ∃ SP, SP = spS p m k := ⟨_, rfl⟩
      rw [← hSP] at HSPe
      have HSPd := Lib.hid hSP; clear hSP
      have HAP : Hid (∀ W : World, Ext wq W → Calls Try.prog 36 #[.slice LG ng cG, .int .i64 PV] W fun e w' => e = .returned (.tuple #[SV SP, .int .i64 0]) ∧ Ext W w') := fun W h => by
        have := along_any LG ng cG lg PV W (hSG.ext h) hng.symm hPVle
        rw [hAE0] at this
        have e : alongV lg PV = SP := by unfold alongV; rw [hAE0, if_neg (by decide)]; exact HSPe.out.symm
        rwa [e] at this
      clear hSG hng hAE0 hPVle
      have hkk : (k : Int) < nN := by omega
      have hkk0 : (0 : Int) ≤ k := by omega
      have hDD : (D : Int) < nE := by omega
      have hDD0 : (0 : Int) ≤ D := by omega
      go_cut [12, 13] from 32 to 45 (fun pt ev wc => ∃ pb, pt = .pointer (some ⟨pb, 0, none⟩) ∧ ev = .int .i64 0 ∧ Blk 43 wc pb [.int .i64 SP.1, .int .i64 SP.2] ∧ Ext wq wc)
      case first =>
        have keep : ∀ W2 : World, Ext wq W2 → (Ext wq W2 ∧ W2.cell? ⟨nb, 0, none⟩ = some (.int .i64 (D : Int)) ∧ W2.cell? ⟨bg, og + D * 2 + 1, none⟩ = some (.slice LG ng cG) ∧ W2.cell? ⟨bp, op + k, none⟩ = some (.int .i64 PV)) := fun W2 hx => ⟨hx, hx.cell m0, hx.cell g1, hx.cell p0⟩
        have KEEP := Lib.hid keep; clear keep m0 m1 g1 p0
        go_region_held3 (fun W => Ext wq W ∧ W.cell? ⟨nb, 0, none⟩ = some (.int .i64 (D : Int)) ∧ W.cell? ⟨bg, og + D * 2 + 1, none⟩ = some (.slice LG ng cG) ∧ W.cell? ⟨bp, op + k, none⟩ = some (.int .i64 PV))
          (first | (with_reducible exact KEEP.out _ (Ext.setCell (Ext.setCell hx2 (p := ⟨wq.heap.size, 0, none⟩) (Nat.le_refl _) _) (p := ⟨wq.heap.size, 1, none⟩) (Nat.le_refl _) _)) | (with_reducible assumption) | (with_reducible exact KEEP.out _ (Ext.drew (Ext.refl _))) | (with_reducible exact KEEP.out _ (Ext.drew (Ext.alloc (Ext.refl _) _))) | (with_reducible exact KEEP.out _ hx2) | (with_reducible exact KEEP.out _ (Ext.alloc hx2 _)) | fail)
          (first
            | (go_at_call 36; (with_reducible refine (HAP.out wq.drew (Ext.drew (Ext.refl _))).mono ?_); rintro e w2 ⟨rfl, he2⟩; have hx2 : Ext wq w2 := (Ext.drew (Ext.refl _)).trans he2)
            | (go_at_call 36; (with_reducible refine (HAP.out (wq.alloc (.cells #[.int .i64 0, .int .i64 0] 43)).drew (Ext.drew (Ext.alloc (Ext.refl _) _))).mono ?_); rintro e w2 ⟨rfl, he2⟩; have hx2 : Ext wq w2 := (Ext.drew (Ext.alloc (Ext.refl _) _)).trans he2; have hB1 : Blk 43 w2 wq.heap.size [.int .i64 0, .int .i64 0] := Blk.ext (Blk.ext (Blk.new' rfl) (Ext.drew (Ext.refl _))) he2; obtain ⟨s0, s1⟩ := blk2 hB1; have e0 := hB1.frozen 0; have e1 := hB1.frozen 1; have HB1' := Lib.hid hB1; clear hB1)
            | fail)
        all_goals
          go_wp2_with fail
          go_meet
        all_goals first
          | exact ⟨w2.heap.size, rfl, rfl, Blk.new' rfl, hx2.alloc _⟩
          | exact ⟨wq.heap.size, rfl, rfl, (HB1'.out.set 0 (.int .i64 SP.1)).set 1 (.int .i64 SP.2), (hx2.setCell (Nat.le_refl _) _).setCell (Nat.le_refl _) _⟩
          | fail
      case rest =>
        obtain ⟨pb, hpb, hev, hBp, hxc⟩ := hcut
        subst hpb; subst hev
        clear m0 m1 g1 p0
        obtain ⟨wz, rfl⟩ : ∃ wz : World, wz = wc := ⟨_, rfl⟩
        have HXz := Lib.hid (HXq.out.trans hxc)
        have HOz := Lib.hid (own_ext HO.out (HXrq.out.trans hxc))
        obtain ⟨q0, q1⟩ := blk2 hBp
        have hbb : w1.heap.size ≤ wz.heap.size := HXz.out.size
        clear hBp hxc
        obtain ⟨Y1, Y2⟩ := SP
        simp only at q0 q1
        have hlk := HLKL.out
        have H63 : Hid (LK.length + 1 ≤ maxLen) := by show _ ≤ _; unfold maxLen; omega
        have H64 : Hid ((LK.length + 1) * 16 ≤ 140737488355328) := by show _ ≤ _; omega
        have HC6 : Hid (w1.heap.size ≤ (wz.alloc (.cells #[.int .i64 Y1, .int .i64 Y2] 43)).heap.size) := by show _ ≤ _; simp; omega
        clear hlk
        go_wp2_with (at_builtin; refine wpList_append_own _ rfl (.tmp 49) (.tmp 51) 24 rfl w1.heap.size 43 i0 (.agg #[.int .i64 0, .int .i64 0]) 2 16 Try.underlying24 hi0 hz0 hz1 hz2 rfl (by decide) _ LK.length (scells LK) rfl (World.ownsRow.alloc HOz.out _) ⟨wz.heap.size, 0, none⟩ 1 1 [.int .i64 Y1, .int .i64 Y2] rfl rfl (World.news_of_block (cs := #[.int .i64 Y1, .int .i64 Y2]) (t := 43) (fr := (0, 0)) (heap_alloc_new wz _)) (by simp [Value.oneCell']) H63.out H64.out HC6.out ?_)
        intro v' w4 hown' hgrow _
        have hO' : OwnT 43 w4 w1.heap.size v' (spTo p m (k + 1)) := by
          rw [spTo_succ, ← HLKE.out, ← HSPd.out]
          unfold OwnT
          rw [List.length_append, scells_append]
          exact hown'
        have hx' : Ext w1 w4 := (HXz.out.alloc _).grown hgrow (fun g hg => (World.ownsRow.lt HO.out g hg).1)
        have HO' := Lib.hid hO'; clear hO' hown' hgrow
        go_wp2_with fail
        go_roundw
        case rel => exact ⟨k + 1, by omega, by go_num, HO'.out, hx'⟩
        case measure => simp [intOf]; omega
    · obtain rfl : k = nN := by omega
      go_wp2_with fail
      go_ret2
      refine ⟨_, by rw [HPZ.out]; rfl, fun _ => ?_, fun h => absurd HPZ.out h, HXw.out⟩
      unfold spL
      rw [HLN.out, ← HLKE.out]
      exact own_base_le HO.out HX1.out.size
end Go.Proofs.Ytliijigdbpmpaaa
