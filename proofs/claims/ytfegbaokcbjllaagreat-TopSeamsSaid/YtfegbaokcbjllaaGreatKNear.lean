/- garmenttop.near. Written by gennear.py. -/
import Derived.Deep.RegionLawGrows
import Derived.ArgAppend
import Derived.Test.YtfegbaokcbjllaaGreatKJoin
import Derived.Test.YtfegbaokcbjllaaGreatKNrm2
namespace Go.Proofs.YtfegbaokcbjllaaGreat
open Go.RowKit
def RetNe (w : World) (x : JX) (e : Ending) (w' : World) : Prop := ∃ b, e = .returned (.bool b) ∧ Ext w w' ∧ (b = true → NearOk x)
def IsEm (t : TypeId) : Value → World → Prop := fun v w => ∃ g, v = .slice (some ⟨g, 0, none⟩) 0 0 ∧ Blk t w g []
theorem IsEm.kp (t : TypeId) : Kp (IsEm t) := fun _ _ _ he h => by obtain ⟨g, h1, h2⟩ := h; exact ⟨g, h1, h2.ext he⟩
set_option maxRecDepth 100000 in
set_option maxHeartbeats 3200000 in
theorem near_any (a : JA) (x : JX) (w : World) (ha : JAt w a x) : Calls Tryz.prog 13 #[a.val x] w (RetNe w x) := by
 have HA := Lib.hid ha; clear ha
 obtain ⟨AL, nL, cL, AM, nM, cM, AN, nN, cN⟩ := a
 obtain ⟨L, ⟨sx, sy⟩, ⟨ex, ey⟩, f, q, ⟨mx, my⟩, ⟨px, py⟩, ms, ns⟩ := x
 have HLL : Hid (L.length = nL) := HA.out.ll
 have HLM : Hid (ms.length = nM) := HA.out.lm
 have HLN : Hid (ns.length = nN) := HA.out.ln
 have HSL : Hid (SpotsAt w AL L) := HA.out.l
 simp only [JA.val] at HSL ⊢
 by_cases h1 : nL < 2
 ·go_enter Tryz.func13, Tryz.ntmps13
  go_wp2_with fail
  go_ret
  exact ⟨_, rfl, (Ext.refl _).alloc _, fun h => by cases h⟩
 by_cases h2 : 6 < nL
 ·go_enter Tryz.func13, Tryz.ntmps13
  go_wp2_with fail
  go_ret
  exact ⟨_, rfl, (Ext.refl _).alloc _, fun h => by cases h⟩
 by_cases h3 : 5 < nM
 ·go_enter Tryz.func13, Tryz.ntmps13
  go_wp2_with fail
  go_ret
  exact ⟨_, rfl, (Ext.refl _).alloc _, fun h => by cases h⟩
 by_cases h4 : 4 < nN
 ·go_enter Tryz.func13, Tryz.ntmps13
  go_wp2_with fail
  go_ret
  exact ⟨_, rfl, (Ext.refl _).alloc _, fun h => by cases h⟩
 obtain ⟨b0, off, rfl, l0, l1⟩ := HSL.out.g (k := 0) (by rw [HLL.out]; omega)
 clear l0 l1
 obtain ⟨i0, hi0, hz0, hz1, hz2⟩ := info_parts spot_info
 go_enter Tryz.func13, Tryz.ntmps13
 go_upto_region 3 with fail
 refine wp_at fun W0 hW0 => ?_
 have HB : Hid (Blk 51 W0 w.heap.size [.slice (some ⟨b0, off, none⟩) nL cL, .int .i64 sx, .int .i64 sy, .int .i64 ex, .int .i64 ey, .bool f, .int .i64 q, .int .i64 mx, .int .i64 my, .int .i64 px, .int .i64 py, .slice AM nM cM, .slice AN nN cN]) := by show Blk _ _ _ _; rw [hW0]; exact Blk.new' rfl
 have HX0 : Hid (Ext w W0) := by show Ext _ _; rw [hW0]; exact (Ext.refl _).alloc _
 clear hW0
 have hg : w.heap.size < W0.heap.size := HB.out.lt
 obtain ⟨g, hgg⟩ : ∃ g, g = w.heap.size := ⟨_, rfl⟩
 rw [← hgg] at HB hg ⊢
 clear hgg
 have HS0 := Lib.hid (HSL.out.ext HX0.out)
 refine region_slotsT (m := 2) (l := 9) (N := 73) (W0 := W0) [27, 28, 29, 30, 31, 32, 33, 34, 35] [IsEm 49, Fx (.pointer (some ⟨g, 0, none⟩)), Fx (.slice (some ⟨b0, off, none⟩) nL cL), IsS W0.heap.size L, Fx (.pointer (some ⟨g, 9, none⟩)), Fx (SV (px, py)), Fx (.pointer (some ⟨g, 7, none⟩)), Fx (SV (mx, my)), IsRow 49 (scells [(px, py), (mx, my)])] (by kernel_rfl) (by omega) (by kernel_rfl) (by kernel_rfl) (by kernel_rfl) (Ext.refl _) ?kp (fun i hi => ?_) (fun xs w1 hx hT => ?_)
 case kp => exact ⟨IsEm.kp _, Fx.kp _, Fx.kp _, IsS.kp _ _, Fx.kp _, Fx.kp _, Fx.kp _, Fx.kp _, IsRow.kp _ _, trivial⟩
 ·match i, hi with
  |0, _ =>
   refine so rfl ?_
   intro fb wi hx hb hd K hK
   refine step_valR (wanted_all rfl) (v := .slice (some ⟨wi.heap.size, 0, none⟩) 0 0) (w' := wi.alloc (.cells #[] 49)) (fun ρ hρ hc => ?_) (hK _ _ ((Ext.refl _).alloc _) (⟨wi.heap.size, rfl, Blk.new' rfl⟩))
   simp [execOp, go_sem]
  |1, _ =>
   refine so rfl ?_
   intro fb wi hx hb hd K hK
   have x1 : fb.eval (.tmp 1) = .pointer (some ⟨g, 0, none⟩) := hb 1 (by kernel_rfl)
   refine step_valR (wanted_all rfl) (v := .pointer (some ⟨g, 0, none⟩)) (w' := wi) (fun ρ hρ hc => ?_) (hK _ _ (Ext.refl _) (rfl))
   have r1 := (hρ (.tmp 1)).trans x1
   simp [execOp, go_sem, r1]
  |2, _ =>
   refine so rfl ?_
   intro fb wi hx hb hd K hK
   have x28 : fb.eval (.tmp 28) = .pointer (some ⟨g, 0, none⟩) := hd 1 28 rfl (by kernel_rfl)
   have cf0 := (HB.out.ext hx).cell 0
   simp only [List.getElem?_cons_zero] at cf0
   refine step_valR (wanted_all rfl) (v := .slice (some ⟨b0, off, none⟩) nL cL) (w' := wi) (fun ρ hρ hc => ?_) (hK _ _ (Ext.refl _) (rfl))
   have r28 := (hρ (.tmp 28)).trans x28
   simp [execOp, go_sem, r28, cf0]
  |3, _ =>
   refine so rfl ?_
   intro fb wi hx hb hd K hK
   have y27 : IsEm 49 (fb.eval (.tmp 27)) wi := hd 0 27 rfl (by kernel_rfl)
   have x29 : fb.eval (.tmp 29) = .slice (some ⟨b0, off, none⟩) nL cL := hd 2 29 rfl (by kernel_rfl)
   obtain ⟨gE, x27, hgE⟩ := y27
   refine step_append_grows rfl (.tmp 27) (.tmp 29) 38 rfl 49 i0 (.agg #[.int .i64 0, .int .i64 0]) 2 16 Tryz.underlying38 hi0 hz0 hz1 hz2 rfl (by decide) (some ⟨gE, 0, none⟩) 0 0 [] x27 (fun e => by cases e) rfl (fun b e j u hj => by simp at hj) ⟨b0, off, none⟩ nL cL (scells L) x29 (by rw [scells_length, HLL.out]) (fun j u hj => (HS0.out.ext hx).cells j u hj) (scells_one' L) (by omega) (by unfold maxLen; omega) (by omega) ?_
   intro v' w' hown hgrow
   have hxx : Ext wi w' := (Ext.refl _).grown hgrow (fun k hk => by cases hk)
   refine hK _ _ hxx ?_
   show OwnS w' W0.heap.size v' L
   have ho1 : w'.ownsRow wi.heap.size 49 2 v' L.length (scells L) := by
    rw [HLL.out]
    simpa using hown
   exact own_base_le ho1 hx.size
  |4, _ =>
   refine so rfl ?_
   intro fb wi hx hb hd K hK
   have x1 : fb.eval (.tmp 1) = .pointer (some ⟨g, 0, none⟩) := hb 1 (by kernel_rfl)
   refine step_valR (wanted_all rfl) (v := .pointer (some ⟨g, 9, none⟩)) (w' := wi) (fun ρ hρ hc => ?_) (hK _ _ (Ext.refl _) (rfl))
   have r1 := (hρ (.tmp 1)).trans x1
   simp [execOp, go_sem, r1]
  |5, _ =>
   refine so rfl ?_
   intro fb wi hx hb hd K hK
   have x31 : fb.eval (.tmp 31) = .pointer (some ⟨g, 9, none⟩) := hd 4 31 rfl (by kernel_rfl)
   have q0 := (HB.out.ext hx).cell 9; have q1 := (HB.out.ext hx).cell 10
   simp only [List.getElem?_cons_zero, List.getElem?_cons_succ] at q0 q1
   refine step_valR (wanted_all rfl) (v := SV (px, py)) (w' := wi) (fun ρ hρ hc => ?_) (hK _ _ (Ext.refl _) (rfl))
   have r31 := (hρ (.tmp 31)).trans x31
   simp [execOp, go_sem, r31, q0, q1]
  |6, _ =>
   refine so rfl ?_
   intro fb wi hx hb hd K hK
   have x1 : fb.eval (.tmp 1) = .pointer (some ⟨g, 0, none⟩) := hb 1 (by kernel_rfl)
   refine step_valR (wanted_all rfl) (v := .pointer (some ⟨g, 7, none⟩)) (w' := wi) (fun ρ hρ hc => ?_) (hK _ _ (Ext.refl _) (rfl))
   have r1 := (hρ (.tmp 1)).trans x1
   simp [execOp, go_sem, r1]
  |7, _ =>
   refine so rfl ?_
   intro fb wi hx hb hd K hK
   have x33 : fb.eval (.tmp 33) = .pointer (some ⟨g, 7, none⟩) := hd 6 33 rfl (by kernel_rfl)
   have q0 := (HB.out.ext hx).cell 7; have q1 := (HB.out.ext hx).cell 8
   simp only [List.getElem?_cons_zero, List.getElem?_cons_succ] at q0 q1
   refine step_valR (wanted_all rfl) (v := SV (mx, my)) (w' := wi) (fun ρ hρ hc => ?_) (hK _ _ (Ext.refl _) (rfl))
   have r33 := (hρ (.tmp 33)).trans x33
   simp [execOp, go_sem, r33, q0, q1]
  |8, _ =>
   refine so rfl ?_
   intro fb wi hx hb hd K hK
   have x32 : fb.eval (.tmp 32) = SV (px, py) := hd 5 32 rfl (by kernel_rfl)
   have x34 : fb.eval (.tmp 34) = SV (mx, my) := hd 7 34 rfl (by kernel_rfl)
   refine step_valR (wanted_all rfl) (v := .slice (some ⟨wi.heap.size, 0, none⟩) 2 2) (w' := wi.alloc (.cells (scells [(px, py), (mx, my)]).toArray 49)) (fun ρ hρ hc => ?_) (hK _ _ ((Ext.refl _).alloc _) (⟨wi.heap.size, rfl, Blk.new' rfl⟩))
   have r32 := (hρ (.tmp 32)).trans x32
   have r34 := (hρ (.tmp 34)).trans x34
   simp [execOp, go_sem, r32, r34, scells]
  |n + 9, hn => exact absurd hn (by omega)
 ·skip
  have t30 : IsS W0.heap.size L (xs 3) w1 := hT 3 (by decide)
  have t35 : IsRow 49 (scells [(px, py), (mx, my)]) (xs 8) w1 := hT 8 (by decide)
  simp only [frOf, putAll, List.drop_succ_cons, List.drop_zero, List.setIfInBounds_toArray, List.set_cons_succ, List.set_cons_zero, Nat.zero_add, Nat.reduceAdd]
  have hT8 : IsRow 49 (scells [(px, py), (mx, my)]) (xs 8) w1 := hT 8 (by decide)
  obtain ⟨gR, hgR, hbR⟩ := hT8
  have hOS : OwnS w1 W0.heap.size (xs 3) L := hT 3 (by decide)
  rw [hgR]
  obtain ⟨v30, hv30⟩ : ∃ v, v = xs 3 := ⟨_, rfl⟩
  rw [← hv30] at hOS ⊢
  have HOS := Lib.hid hOS
  have HBR := Lib.hid hbR
  have HXR := Lib.hid hx
  have HSZ := Lib.hid hx.size
  clear hT hgR hv30 hOS hbR hx
  generalize xs 0 = y0
  generalize xs 8 = y8
  have hcs : ∀ j u, (scells [(px, py), (mx, my)])[j]? = some u → w1.cell? ((⟨gR, 0, none⟩ : Addr).add j) = some u := fun j u hj => by
   rw [addr_add, Nat.zero_add, HBR.out.cell j]
   exact hj
  refine wpList_append_own _ rfl (.tmp 30) (.tmp 35) 38 rfl W0.heap.size 49 i0 (.agg #[.int .i64 0, .int .i64 0]) 2 16 Tryz.underlying38 hi0 hz0 hz1 hz2 rfl (by decide) v30 L.length (scells L) rfl HOS.out ⟨gR, 0, none⟩ 2 2 (scells [(px, py), (mx, my)]) rfl rfl hcs (scells_one' _) (by rw [HLL.out]; unfold maxLen; omega) (by rw [HLL.out]; omega) HSZ.out ?_
  intro v' w2 hown hgrow hnil
  have hsz1 := HSZ.out
  have hlow : ∀ k, v30.ownBlock = some k → W0.heap.size ≤ k := fun k hk => (World.ownsRow.lt HOS.out k hk).1
  have hx2 : Ext W0 w2 := (HXR.out).grown hgrow hlow
  obtain ⟨AL, hAL⟩ : ∃ AL, AL = L ++ [(px, py), (mx, my)] := ⟨_, rfl⟩
  have ho2 : OwnS w2 W0.heap.size v' AL := by
   show w2.ownsRow _ _ _ _ AL.length (scells AL)
   rw [hAL, List.length_append, scells_append]
   exact hown
  have HLA : Hid (AL.length = nL + 2) := by show _ = _; rw [hAL, List.length_append, HLL.out]; rfl
  have HAL := Lib.hid hAL
  have HX2 := Lib.hid (HX0.out.trans hx2)
  obtain ⟨AA, cA, hvA, hsA, hnA, hcA⟩ := OwnS.slice ho2
  rw [HLA.out] at hvA
  subst hvA
  have HSA := Lib.hid hsA
  clear hcs hown hgrow hnil hlow hx2 hAL ho2 hsA hnA HOS HBR HXR HSZ hsz1 hi0 hz0 hz1 hz2
  clear i0
  go_wp2_with fail
  refine wp_at fun W2 hW2 => ?_
  have HX3 : Hid (Ext w2 W2) := by show Ext _ _; rw [hW2]; exact Ext.refl _
  clear hW2
  go_loopw [4] (fun i wr => ∃ k : Nat, k ≤ nL + 2 ∧ i = .int .i64 k ∧ (∀ j, j < k → inR 5000 (gS AL j)) ∧ Ext w2 wr) (fun i _ => nL + 2 - (intOf i).toNat)
  case atStart => exact ⟨0, Nat.zero_le _, rfl, fun j hj => absurd hj (Nat.not_lt_zero _), HX3.out⟩
  case round =>
   obtain ⟨k, hk, rfl, hall, hx⟩ := hrel
   have HALL := Lib.hid hall; have HX := Lib.hid hx; clear hall hx
   by_cases hlt : k < nL + 2
   ·obtain ⟨b, o2, rfl, q0, q1⟩ := (HSA.out.ext HX.out).g (k := k) (by rw [HLA.out]; exact hlt)
    obtain ⟨gx, hgx⟩ : ∃ z, z = (gS AL k).1 := ⟨_, rfl⟩
    obtain ⟨gy, hgy⟩ : ∃ z, z = (gS AL k).2 := ⟨_, rfl⟩
    rw [← hgx] at q0
    rw [← hgy] at q1
    have HGX := Lib.hid hgx; have HGY := Lib.hid hgy
    clear hgx hgy
    have hk1 : (k : Int) < ((nL + 2 : Nat) : Int) := by omega
    by_cases c1 : gx < -5000
    ·go_wp2_with fail
     go_ret
     exact ⟨_, rfl, HX2.out.trans HX.out, fun h => by cases h⟩
    by_cases c2 : 5000 < gx
    ·go_wp2_with fail
     go_ret
     exact ⟨_, rfl, HX2.out.trans HX.out, fun h => by cases h⟩
    by_cases c3 : gy < -5000
    ·go_wp2_with fail
     go_ret
     exact ⟨_, rfl, HX2.out.trans HX.out, fun h => by cases h⟩
    by_cases c4 : 5000 < gy
    ·go_wp2_with fail
     go_ret
     exact ⟨_, rfl, HX2.out.trans HX.out, fun h => by cases h⟩
    go_wp2_with fail
    go_roundw
    case rel => exact ⟨k + 1, by omega, by go_num, fun j hj => by
     rcases Nat.lt_succ_iff_lt_or_eq.1 hj with h | h
     ·exact HALL.out j h
     ·subst h
      exact ⟨by rw [← HGX.out]; omega, by rw [← HGX.out]; omega, by rw [← HGY.out]; omega, by rw [← HGY.out]; omega⟩, HX.out⟩
    case measure => simp [intOf]; omega
   ·obtain rfl : k = nL + 2 := by omega
    go_wp2_with fail
    go_ret
    refine ⟨_, rfl, HX2.out.trans HX.out, fun _ => ⟨by show 2 ≤ L.length; rw [HLL.out]; omega, by show L.length ≤ 6; rw [HLL.out]; omega, by show ms.length ≤ 5; rw [HLM.out]; omega, by show ns.length ≤ 4; rw [HLN.out]; omega, fun j hj => ?_⟩⟩
    have e : JX.all ⟨L, (sx, sy), (ex, ey), f, q, (mx, my), (px, py), ms, ns⟩ = AL := HAL.out.symm
    rw [e] at hj ⊢
    exact HALL.out j (by rw [← HLA.out]; exact hj)
end Go.Proofs.YtfegbaokcbjllaaGreat
