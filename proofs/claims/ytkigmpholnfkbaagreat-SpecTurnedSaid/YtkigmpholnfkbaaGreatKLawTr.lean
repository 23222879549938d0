/- the law SpecTurned, walked -/
import Derived.Test.YtkigmpholnfkbaaGreatKLawSc
import Derived.Test.YtkigmpholnfkbaaGreatKStA
/- polyline.Move -/
namespace Go.Proofs.YtkigmpholnfkbaaGreat
open Go.RowKit
set_option maxRecDepth 100000 in
set_option maxHeartbeats 1600000 in
theorem move_any (A : Option Addr) (n c : Nat) (l : List Spot) (d : Spot) (w : World) (ha : SpotsAt w A l) (hl : l.length = n) (hn : n ≤ 1000) :
    Calls Tryz.prog 29 #[.slice A n c, SV d] w fun e w' => ∃ v, e = .returned v ∧ OwnT 62 w' w.heap.size v (l.map (moveS d)) ∧ Ext w w' := by
  obtain ⟨d0, d1⟩ := d
  have HL := Lib.hid hl; clear hl
  have HA := Lib.hid ha; clear ha
  have hmk : ∀ W : World, (Instr.makeSlice 50 (.int .i64 (n : Int)) (.int .i64 (n : Int))).run Tryz.prog W = .ok (.slice (some ⟨W.heap.size, 0, none⟩) n n) (W.alloc (.cells (scells (List.replicate n (0, 0))).toArray 62)) := fun W => by
    have h := make_spots n (by omega) W
    rw [made_two] at h
    simpa using h
  obtain ⟨Z, hZ⟩ : ∃ Z, Z = (scells (List.replicate n (0, 0))).toArray := ⟨_, rfl⟩
  rw [← hZ] at hmk
  have HZ := Lib.hid hZ; clear hZ
  go_enter Tryz.func29, Tryz.ntmps29
  go_wp2_with fail
  refine wp_at fun W0 hW0 => ?_
  have hx0 : Ext w W0 := by rw [hW0]; exact ((Ext.refl _).alloc _).alloc _
  have hD : Blk 62 W0 w.heap.size [.int .i64 d0, .int .i64 d1] := by rw [hW0]; exact (Blk.new' rfl).ext ((Ext.refl _).alloc _)
  obtain ⟨ZL, hZL⟩ : ∃ ZL, ZL = List.replicate n ((0, 0) : Spot) := ⟨_, rfl⟩
  have hG : Blk 62 W0 (w.heap.size + 1) (scells ZL) := by rw [hW0, HZ.out, hZL]; exact Blk.new' (by simp)
  have hZll : ZL.length = l.length := by rw [hZL, List.length_replicate, HL.out]
  have HZL := Lib.hid hZll; clear hZL hZll hW0 hmk
  go_loopw [13] (fun i wr => ∃ k : Nat, k ≤ n ∧ i = .int .i64 k ∧ Blk 62 wr w.heap.size [.int .i64 d0, .int .i64 d1] ∧ Blk 62 wr (w.heap.size + 1) (scells (mixS (fun p => moveS (d0, d1) (gS l p)) ZL k)) ∧ Ext w wr) (fun i _ => n - (intOf i).toNat)
  case atStart => exact ⟨0, Nat.zero_le _, rfl, hD, by rw [mixS_zero]; exact hG, hx0⟩
  case round =>
    clear hx0 hD hG
    obtain ⟨k, hk, rfl, hD, hG, hx⟩ := hrel
    have HG := Lib.hid hG; have HD := Lib.hid hD; clear hG hD
    by_cases hlt : k < n
    · obtain ⟨b, off, rfl, i0, i1⟩ := (HA.out.ext hx).g (k := k) (by rw [HL.out]; exact hlt)
      obtain ⟨c0, c1, f0, f1⟩ := pair_cells0 HG.out (k := k) (by rw [mixS_len, HZL.out, HL.out]; exact hlt)
      have e0 := HD.out.cell 0
      have e1 := HD.out.cell 1
      simp only [List.getElem?_cons_succ, List.getElem?_cons_zero] at e0 e1
      have hgl : w.heap.size + 1 < wr.heap.size := HG.out.lt
      have hdl : w.heap.size < wr.heap.size := HD.out.lt
      have hbl : b < wr.heap.size := cell_lt i0
      go_wp2_with fail
      go_roundw
      case rel =>
        refine ⟨k + 1, by omega, by go_num, ?_, ?_, ?_⟩
        · exact ((HD.out.other (by simp) _).other (by simp) _).ext ((Ext.refl _).alloc _)
        · have h := pair_set0 HG.out (k := k) (by rw [mixS_len, HZL.out, HL.out]; exact hlt) (moveS (d0, d1) (gS l k))
          rw [mixS_succ (f := fun p => moveS (d0, d1) (gS l p)) (by rw [HZL.out, HL.out]; exact hlt)] at h
          exact h.ext ((Ext.refl _).alloc _)
        · exact ((hx.setCell (by simp) _).setCell (by simp) _).alloc _
      case measure => simp [intOf]; omega
    · obtain rfl : k = n := by omega
      go_wp2_with fail
      go_ret
      refine ⟨_, rfl, ?_, hx⟩
      have h := own_of_blk (base := w.heap.size) HG.out (by omega) (by rw [mixS_len, HZL.out, HL.out]; omega)
      rw [mixS_len, HZL.out, HL.out] at h
      rwa [show k = l.length from HL.out.symm, mixS_map HZL.out, ← show k = l.length from HL.out.symm] at h
end Go.Proofs.YtkigmpholnfkbaaGreat
/- behind an append of an edge to the row of a piece of the call's own. No program in sight. -/
namespace Go.Proofs.YtkigmpholnfkbaaGreat
open Go.RowKit
theorem PartsOk.set {w : World} {base ob j : Nat} {t : TypeId} {cs : List Value} {ps : List EPart} {es : List Edge} (h : PartsOk w base ps es) (hB : Blk t w ob cs) (ht : 62 ≠ t) (u : Value) : PartsOk (w.setCell ⟨ob, j, none⟩ u) base ps es :=
  ⟨h.1, fun k hk => ⟨(h.2 k hk).1, own_set (h.2 k hk).2 (own_blk_ne (h.2 k hk).2 hB ht) u⟩⟩
theorem edge_app {wc W wn : World} {ob g cap n vc : Nat} {VA : Option Addr} {pc : List Value} {L : List Edge} {ps : List EPart} {en : EPart} {e : Edge} (hn : L.length = n) (hQ : Blk 52 W ob pc)
    (hv : W.ownsRow wc.heap.size 57 2 (.slice VA n vc) n (ecells ps)) (hp : PartsOk W wc.heap.size ps L) (he : EOk W wc.heap.size en e) (hk : Kept (fun k => k = ob) wc W)
    (hg : W.grownBy wn (Value.ownBlock (.slice VA n vc))) (ho : wn.ownsRow wc.heap.size 57 2 (.slice (some ⟨g, 0, none⟩) (n + 1) cap) (n + 1) (ecells ps ++ [.string en.1, en.2])) (j : Nat) :
    Blk 52 (wn.setCell ⟨ob, j, none⟩ (.slice (some ⟨g, 0, none⟩) (n + 1) cap)) ob (pc.set j (.slice (some ⟨g, 0, none⟩) (n + 1) cap)) ∧ OwnE (wn.setCell ⟨ob, j, none⟩ (.slice (some ⟨g, 0, none⟩) (n + 1) cap)) wc.heap.size (.slice (some ⟨g, 0, none⟩) (n + 1) cap) (L ++ [e]) ∧
      Kept (fun k => k = ob) wc (wn.setCell ⟨ob, j, none⟩ (.slice (some ⟨g, 0, none⟩) (n + 1) cap)) := by
  subst hn
  obtain ⟨h1, h2, h3⟩ := field_fin (wc := wc) (j := j) (by decide) hQ ⟨_, _, _, hv⟩ hg ho hk
  have hQn : Blk 52 wn ob pc := (hg.block _ hQ.lt (Ne.symm (own_blk_ne hv hQ (by decide)))).trans hQ
  refine ⟨h1, ⟨ps ++ [en], ((hp.snoc he).grown hv (by decide) hg).set hQn (by decide) _, ?_⟩, h3⟩
  rw [List.length_append, ecells_append]
  simpa [ecells] using h2
end Go.Proofs.YtkigmpholnfkbaaGreat
/- garmentref11.Within 1000: what true says -/
namespace Go.Proofs.YtkigmpholnfkbaaGreat
open Go.RowKit
def RetWK (w : World) (s : Spot) (e : Ending) (w' : World) : Prop := ∃ b, e = .returned (.bool b) ∧ Ext w w' ∧ (b = true → inR 1000 s)
theorem rwithinI_any (s : Spot) (w : World) :
    Calls Tryz.prog 27 #[SV s, .int .i64 1000] w (RetWK w s) := by
  obtain ⟨x, y⟩ := s
  by_cases h0 : -1000 ≤ x
  · by_cases h1 : x ≤ 1000
    · by_cases h2 : -1000 ≤ y
      · by_cases h3 : y ≤ 1000
        · go_enter Tryz.func27, Tryz.ntmps27
          go_wp2
          all_goals
            go_ret
            exact ⟨_, rfl, (Ext.refl _).alloc _, fun _ => ⟨h0, h1, h2, h3⟩⟩
        · go_enter Tryz.func27, Tryz.ntmps27
          go_wp2
          all_goals
            go_ret
            exact ⟨_, rfl, (Ext.refl _).alloc _, fun h => by simp at h⟩
      · go_enter Tryz.func27, Tryz.ntmps27
        go_wp2
        all_goals
          go_ret
          exact ⟨_, rfl, (Ext.refl _).alloc _, fun h => by simp at h⟩
    · go_enter Tryz.func27, Tryz.ntmps27
      go_wp2
      all_goals
        go_ret
        exact ⟨_, rfl, (Ext.refl _).alloc _, fun h => by simp at h⟩
  · go_enter Tryz.func27, Tryz.ntmps27
    go_wp2
    all_goals
      go_ret
      exact ⟨_, rfl, (Ext.refl _).alloc _, fun h => by simp at h⟩
end Go.Proofs.YtkigmpholnfkbaaGreat
namespace Go.Proofs.YtkigmpholnfkbaaGreat
open Go.RowKit
set_option maxRecDepth 100000 in
set_option maxHeartbeats 6400000 in
theorem turnedX_any (a : StyA) (x : StyX) (q : PomA) (p : PomX) (z : Int) (qt : Nat) (hqt : qt < 256) (d : Spot) (w : World) (hs : StyXAt w a x) (hwf : ∀ k, k < x.ps.length → WfE (gPx x.ps k).p.es ∧ WfL (gPx x.ps k).p.cs) (hp : PomAt w q p) :
    Calls Tryz.prog 10 #[a.val, q.val, .int .i64 z, .int .u8 (qt : Int), SV d] w fun e w' => e = .returned (.bool true) ∧ Ext w w' := by
  have HSM := Lib.hid (fun W g (h : Ext w W) (hb : Blk 36 W g (PomA.cells q)) => small_any a x (some ⟨g, 0, none⟩) 1 1 [p] W (hs.ext h) (poms_one hb (hp.ext h)) rfl (by omega))
  have HTA := Lib.hid (fun (hlt : LtX x) W (h : Ext w W) => targX_any a x q p z W (hs.ext h) hlt.n hlt.zz (hp.ext h))
  have HTB := Lib.hid (fun (hlt : LtX x) a' (T : Pc → Pc) W (h : Ext w W) (hs' : StyXAt W a' (mapX x T)) => targX_any a' (mapX x T) q p z W hs' hlt.n hlt.zz (hp.ext h))
  have HCA := Lib.hid (fun (hlt : LtX x) W (h : Ext w W) => r25Check_any a x W (hs.ext h) hlt.n hlt.zz hlt.ll)
  have HCB := Lib.hid (fun (hlt : LtX x) a' (T : Pc → Pc) W (hs' : StyXAt W a' (mapX x T)) (hl : ∀ k, k < (mapX x T).ps.length → (gPx (mapX x T).ps k).p.es.length ≤ 1000 ∧ (gPx (mapX x T).ps k).p.cs.length ≤ 1000) => r25Check_any a' (mapX x T) W hs' hlt.n hlt.zz hl)
  have HS := Lib.hid hs
  have HWF := Lib.hid hwf
  clear hs hp hwf
  obtain ⟨nm, AS, nS, cS, AM, nM, cM, AP, nP, cP, AU, nU, cU, AK, nK, cK, AO, nO, cO⟩ := a
  obtain ⟨pn, pAP, pnP, pcP, pAE, pnE, pcE, ppl, pmi⟩ := q
  obtain ⟨dx, dy⟩ := d
  have HLP : Hid (x.ps.length = nP) := HS.out.lP
  simp only [StyA.val, PomA.val, PomA.cells] at HSM HTA HTB HCA HCB ⊢
  go_enter Tryz.func10, Tryz.ntmps10
  go_wp2_with fail
  refine (HSM.out _ (w.heap.size + 1 + 1 + 1) (((((Ext.refl _).alloc _).alloc _).alloc _).alloc _) (Blk.new' (by simp))).mono ?_
  rintro e w1 ⟨b, rfl, he1, hb⟩
  have HB1 : Hid (Blk 29 w1 w.heap.size [.string nm, .slice AS nS cS, .slice AM nM cM, .slice AP nP cP, .slice AU nU cU, .slice AK nK cK, .slice AO nO cO]) := ((((Blk.new' rfl).ext ((Ext.refl _).alloc _)).ext ((Ext.refl _).alloc _)).ext ((Ext.refl _).alloc _)).ext he1
  have HN1 : Hid (Blk 36 w1 (w.heap.size + 1) [.string pn, .slice pAP pnP pcP, .slice pAE pnE pcE, .int .i64 ppl, .int .i64 pmi]) := (((Blk.new' (by simp)).ext ((Ext.refl _).alloc _)).ext ((Ext.refl _).alloc _)).ext he1
  have HD1 : Hid (Blk 62 w1 (w.heap.size + 1 + 1) [.int .i64 dx, .int .i64 dy]) := ((Blk.new' (by simp)).ext ((Ext.refl _).alloc _)).ext he1
  have HX1 : Hid (Ext w w1) := (((((Ext.refl _).alloc _).alloc _).alloc _).alloc _).trans he1
  have HB := Lib.hid hb
  clear he1 hb HSM
  cases b
  · go_wp2_with fail
    refine (awake_any _).mono ?_
    rintro e w2 ⟨rfl, he2⟩
    go_wp2_with fail
    go_ret
    exact ⟨rfl, HX1.out.trans he2⟩
  obtain ⟨hlt, hfw⟩ := HB.out rfl
  have HT := Lib.hid (HTA.out hlt)
  have HTM := Lib.hid (HTB.out hlt)
  have HC := Lib.hid (HCA.out hlt)
  have HCM := Lib.hid (HCB.out hlt)
  have HLT := Lib.hid hlt
  clear HTA HTB HCA HCB hlt hfw HB
  obtain ⟨c0, c1, c2, c3, c4, c5, c6⟩ := blk7 HB1.out
  obtain ⟨SE, hSE⟩ : ∃ y, y = styE x := ⟨_, rfl⟩
  rw [← hSE] at HC
  go_wp2_with fail
  refine (HC.out _ HX1.out).mono ?_
  rintro e w2 ⟨rfl, he2⟩
  have HX2 := Lib.hid (HX1.out.trans he2); have HB2 := Lib.hid (HB1.out.ext he2); have HN2 := Lib.hid (HN1.out.ext he2); have HD2 := Lib.hid (HD1.out.ext he2)
  clear he2 c0 c1 c2 c3 c4 c5 c6 HB1 HN1 HD1 HX1
  by_cases hz : SE = 0
  rotate_left
  · have hzb : (SE != 0) = true := by simp [hz]
    clear hz hSE
    go_wp2_with fail
    refine (awake_any _).mono ?_
    rintro e w3 ⟨rfl, he3⟩
    go_wp2_with fail
    go_ret
    exact ⟨rfl, HX2.out.trans he3⟩
  subst hz
  have HSE : Hid (styE x = 0) := hSE.symm
  clear hSE
  obtain ⟨s0, s1⟩ := blk2 HD2.out
  go_wp2_with fail
  refine (rwithinI_any (dx, dy) _).mono ?_
  rintro e w3 ⟨b, rfl, he3, hb⟩
  have HX3 := Lib.hid (HX2.out.trans he3); have HB3 := Lib.hid (HB2.out.ext he3); have HN3 := Lib.hid (HN2.out.ext he3); have HD3 := Lib.hid (HD2.out.ext he3)
  clear he3 s0 s1 HB2 HN2 HD2 HX2
  cases b
  · clear hb
    go_wp2_with fail
    refine (awake_any _).mono ?_
    rintro e w4 ⟨rfl, he4⟩
    go_wp2_with fail
    go_ret
    exact ⟨rfl, HX3.out.trans he4⟩
  have HIN := Lib.hid (hb rfl)
  clear hb
  obtain ⟨c0, c1, c2, c3, c4, c5, c6⟩ := blk7 HB3.out
  go_upto_region 3 with fail
  go_cut [11, 12] from 39 to 42 (fun pt pu wc => ∃ T U, pt = .pointer (some ⟨T, 0, none⟩) ∧ pu = .pointer (some ⟨U, 0, none⟩) ∧ Blk 29 wc T [.string nm, .slice AS nS cS, .slice AM nM cM, .slice AP nP cP, .slice AU nU cU, .slice AK nK cK, .slice AO nO cO] ∧ Blk 29 wc U [.string nm, .slice AS nS cS, .slice AM nM cM, .slice AP nP cP, .slice AU nU cU, .slice AK nK cK, .slice AO nO cO] ∧ Ext w3 wc ∧ T ≠ U ∧ w3.heap.size ≤ T ∧ w3.heap.size ≤ U)
  case first =>
    have keep : ∀ W1 : World, Ext w3 W1 → (Ext w3 W1 ∧ W1.cell? ⟨w.heap.size, 0, none⟩ = some (.string nm) ∧ W1.cell? ⟨w.heap.size, 1, none⟩ = some (.slice AS nS cS) ∧ W1.cell? ⟨w.heap.size, 2, none⟩ = some (.slice AM nM cM) ∧ W1.cell? ⟨w.heap.size, 3, none⟩ = some (.slice AP nP cP) ∧ W1.cell? ⟨w.heap.size, 4, none⟩ = some (.slice AU nU cU) ∧ W1.cell? ⟨w.heap.size, 5, none⟩ = some (.slice AK nK cK) ∧ W1.cell? ⟨w.heap.size, 6, none⟩ = some (.slice AO nO cO)) := fun W1 hx => ⟨hx, hx.cell c0, hx.cell c1, hx.cell c2, hx.cell c3, hx.cell c4, hx.cell c5, hx.cell c6⟩
    have KEEP := Lib.hid keep; clear keep c0 c1 c2 c3 c4 c5 c6
    go_region_held3 (fun W1 => Ext w3 W1 ∧ W1.cell? ⟨w.heap.size, 0, none⟩ = some (.string nm) ∧ W1.cell? ⟨w.heap.size, 1, none⟩ = some (.slice AS nS cS) ∧ W1.cell? ⟨w.heap.size, 2, none⟩ = some (.slice AM nM cM) ∧ W1.cell? ⟨w.heap.size, 3, none⟩ = some (.slice AP nP cP) ∧ W1.cell? ⟨w.heap.size, 4, none⟩ = some (.slice AU nU cU) ∧ W1.cell? ⟨w.heap.size, 5, none⟩ = some (.slice AK nK cK) ∧ W1.cell? ⟨w.heap.size, 6, none⟩ = some (.slice AO nO cO))
      (first | (with_reducible assumption) | (with_reducible exact KEEP.out _ (Ext.drew (Ext.refl _))) | (with_reducible exact KEEP.out _ (Ext.drew (Ext.alloc (Ext.refl _) _))) | (with_reducible exact KEEP.out _ (Ext.drew (Ext.alloc (Ext.alloc (Ext.refl _) _) _))) | fail)
      (first | fail)
    all_goals
      go_wp2_with fail
      go_meet
    all_goals
      refine ⟨_, _, rfl, rfl, ?_, ?_, ?_, by omega, by omega, by omega⟩
      · first
          | exact ((Blk.new' rfl).ext ((Ext.refl _).alloc _)).ext ((Ext.refl _).drew)
          | exact (Blk.new' (by simp)).ext ((Ext.refl _).drew)
          | fail
      · first
          | exact ((Blk.new' rfl).ext ((Ext.refl _).alloc _)).ext ((Ext.refl _).drew)
          | exact (Blk.new' (by simp)).ext ((Ext.refl _).drew)
          | fail
      · exact (((Ext.refl _).alloc _).alloc _).drew
  case rest =>
    obtain ⟨T, U, hpt, hpu, hBT, hBU, hxc, hTU, hT3, hU3⟩ := hcut
    subst hpt hpu
    obtain ⟨w4, rfl⟩ : ∃ w4 : World, w4 = wc := ⟨_, rfl⟩
    have HBT := Lib.hid hBT; have HBU := Lib.hid hBU; have HXC := Lib.hid hxc; have HTU := Lib.hid hTU
    have HW3 : Hid (w.heap.size < w3.heap.size ∧ w.heap.size + 1 < w3.heap.size ∧ w.heap.size + 1 + 1 < w3.heap.size) := ⟨HB3.out.lt, HN3.out.lt, HD3.out.lt⟩
    have HT3 : Hid (w3.heap.size ≤ T ∧ w3.heap.size ≤ U) := ⟨hT3, hU3⟩
    clear hBT hBU hxc hTU hT3 hU3 c0 c1 c2 c3 c4 c5 c6
    obtain ⟨t0, t1, t2, t3, t4, t5, t6⟩ := blk7 HBT.out
    obtain ⟨u0, u1, u2, u3, u4, u5, u6⟩ := blk7 HBU.out
    have ft := HBT.out.frozen 3
    have fu := HBU.out.frozen 3
    have hne1 := HTU.out
    have hne2 := Ne.symm HTU.out
    go_upto_region 5 with fail
    obtain ⟨w5, hw5⟩ : ∃ w5, w5 = (w4.setCell ⟨T, 3, none⟩ (.slice none 0 0)).setCell ⟨U, 3, none⟩ (.slice none 0 0) := ⟨_, rfl⟩
    rw [← hw5]
    have HX5 : Hid (Ext w3 w5) := by show Ext _ _; rw [hw5]; exact Ext.setCell (p := ⟨U, 3, none⟩) (Ext.setCell (p := ⟨T, 3, none⟩) HXC.out HT3.out.1 _) HT3.out.2 _
    have HT5 : Hid (Blk 29 w5 T [.string nm, .slice AS nS cS, .slice AM nM cM, .slice none 0 0, .slice AU nU cU, .slice AK nK cK, .slice AO nO cO]) := by show Blk _ _ _ _; rw [hw5]; exact (HBT.out.set 3 _).other (p := ⟨U, 3, none⟩) HTU.out _
    have HU5 : Hid (Blk 29 w5 U [.string nm, .slice AS nS cS, .slice AM nM cM, .slice none 0 0, .slice AU nU cU, .slice AK nK cK, .slice AO nO cO]) := by show Blk _ _ _ _; rw [hw5]; exact (HBU.out.other (p := ⟨T, 3, none⟩) (Ne.symm HTU.out) _).set 3 _
    have HPS := Lib.hid HS.out.P
    have HLX := Lib.hid HLT.out.p
    have HNP : Hid (nP ≤ 14) := by show nP ≤ 14; rw [← HLP.out]; exact HLT.out.P
    obtain ⟨LT, hLT⟩ : ∃ y, y = (mapX x fun p => tnPc p (qt : Int)).ps := ⟨_, rfl⟩
    obtain ⟨LU, hLU⟩ : ∃ y, y = (mapX x (mvP (dx, dy))).ps := ⟨_, rfl⟩
    have HLTG : Hid (∀ k, k < nP → gPx LT k = ⟨(gPx x.ps k).nm, (gPx x.ps k).gr, tnPc (gPx x.ps k).p (qt : Int)⟩) := fun k hk => by rw [hLT]; exact mapX_get (by rw [HLP.out]; exact hk)
    have HLUG : Hid (∀ k, k < nP → gPx LU k = ⟨(gPx x.ps k).nm, (gPx x.ps k).gr, mvP (dx, dy) (gPx x.ps k).p⟩) := fun k hk => by rw [hLU]; exact mapX_get (by rw [HLP.out]; exact hk)
    have HLTL : Hid (LT.length = nP) := by show _ = _; rw [hLT, mapX_len]; exact HLP.out
    have HLUL : Hid (LU.length = nP) := by show _ = _; rw [hLU, mapX_len]; exact HLP.out
    have HLTE := Lib.hid hLT; have HLUE := Lib.hid hLU
    obtain ⟨i0, hi0, hz0, hz1, hz2⟩ := info_parts piece_info
    obtain ⟨i1, hi1, hy0, hy1, hy2⟩ := info_parts edge_info
    clear hLT hLU hw5 t0 t1 t2 t3 t4 t5 t6 u0 u1 u2 u3 u4 u5 u6 ft fu hne1 hne2 HBT HBU HXC
    go_wp2_with fail
    go_loopw [13] (fun i wr => ∃ (k : Nat) (vT vU : Value), k ≤ nP ∧ i = .int .i64 k ∧ OwnX wr w3.heap.size vT (LT.take k) ∧ OwnX wr w3.heap.size vU (LU.take k) ∧ (∀ g, vT.ownBlock = some g → vU.ownBlock ≠ some g) ∧ Blk 29 wr T [.string nm, .slice AS nS cS, .slice AM nM cM, vT, .slice AU nU cU, .slice AK nK cK, .slice AO nO cO] ∧ Blk 29 wr U [.string nm, .slice AS nS cS, .slice AM nM cM, vU, .slice AU nU cU, .slice AK nK cK, .slice AO nO cO] ∧ Ext w3 wr) (fun i _ => nP - (intOf i).toNat)
    case atStart => exact ⟨0, .slice none 0 0, .slice none 0 0, Nat.zero_le _, rfl, OwnX.nil _ _, OwnX.nil _ _, (fun g h => by cases h), HT5.out, HU5.out, HX5.out⟩
    case round =>
      obtain ⟨k, vT, vU, hk, rfl, hoT, hoU, hap, hbT, hbU, hx⟩ := hrel
      have HOT := Lib.hid hoT; have HOU := Lib.hid hoU; have HAP := Lib.hid hap; have HTr := Lib.hid hbT; have HUr := Lib.hid hbU; have HX := Lib.hid hx
      clear hoT hoU hap hbT hbU hx HT5 HU5 HX5
      have HBr := Lib.hid (HB3.out.ext HX.out)
      obtain ⟨c0, c1, c2, c3, c4, c5, c6⟩ := blk7 HBr.out
      by_cases hlt : k < nP
      · obtain ⟨b, off, A, hAP, hpc, hcc, hnn, hgg⟩ := HPS.out k (by rw [HLP.out]; exact hlt)

        subst hAP
        have HPC := Lib.hid hpc; have HCC3 := Lib.hid (hcc.ext (HX3.out.trans HX.out)); have HCW := Lib.hid hcc
        have HNN : Hid (A.nm = (gPx x.ps k).nm ∧ A.gr = (gPx x.ps k).gr) := ⟨hnn, hgg⟩
        obtain ⟨⟨l20, lc20, lw20, ln20, ll80⟩, _⟩ := HLX.out k (by rw [HLP.out]; exact hlt)
        have HLL := Lib.hid ll80
        clear hpc hcc hnn hgg ll80
        obtain ⟨X, hX⟩ : ∃ X, X = gPx x.ps k := ⟨_, rfl⟩
        have HXE : Hid (gPx x.ps k = X) := hX.symm
        rw [← hX] at HPC HNN l20 lc20 lw20 ln20 HLL
        clear hX
        obtain ⟨nmA, AE, nE, cE, gr, AN, nN, cN, AC, nC, cC, AW, nW, cW, mt⟩ := A
        have hE20 : X.p.es.length = nE := HPC.out.le
        have hC20 : X.p.cs.length = nC := HPC.out.lc
        have hW20 : X.p.ws.length = nW := HPC.out.li
        have hN20 : X.p.ns.length = nN := HPC.out.ln
        have HE := Lib.hid HPC.out.e; have HC' := Lib.hid HPC.out.c; have HW' := Lib.hid HPC.out.i; have HN' := Lib.hid HPC.out.n

        obtain ⟨p0, p1, p2, p3, p4, p5, p6⟩ := HCC3.out

        obtain ⟨VA, vc, hvT, _, hvc, _⟩ := HOT.out.slice
        obtain ⟨LK, hLK⟩ : ∃ y, y = LT.take k := ⟨_, rfl⟩
        have HLKL : Hid (LK.length = k) := by show _ = _; rw [hLK, List.length_take, HLTL.out]; omega
        have HLKE := Lib.hid hLK
        rw [← hLK] at HOT hvT hvc
        clear hLK
        subst hvT
        obtain ⟨t0, t1, t2, t3, t4, t5, t6⟩ := blk7 HTr.out
        have hlk : (k : Int) < nP := by omega
        have hlk0 : (0 : Int) ≤ k := by omega
        have hTl : T < wr.heap.size := HTr.out.lt
        have hUl : U < wr.heap.size := HUr.out.lt
        go_upto_region 8 with fail
        have HC0 : Hid (Ext wr wr.drew) := Ext.drew (Ext.refl _)
        have HCC : Hid (Ext wr wr.drew) := HC0
        have hcv : IntKind.i64.wrap (qt : Int) = (qt : Int) := IntWalk.i64_in _ (by omega)
        have z0 : ∀ z : World, Ext wr z → z.cell? ⟨T, 3, none⟩ = some (.slice VA LK.length vc) := fun z h => h.cell t3
        have z1 : ∀ z : World, Ext wr z → z.cell? ⟨w.heap.size, 3, none⟩ = some (.slice (some ⟨b, off, none⟩) nP cP) := fun z h => h.cell c3
        have z2 : ∀ z : World, Ext wr z → z.cell? ⟨b, off + k * 7, none⟩ = some (.string nmA) := fun z h => h.cell p0
        have z3 : ∀ z : World, Ext wr z → z.cell? ⟨b, off + k * 7 + 1, none⟩ = some (.slice AE nE cE) := fun z h => h.cell p1
        have z4 : ∀ z : World, Ext wr z → z.cell? ⟨b, off + k * 7 + 2, none⟩ = some (.int .i64 gr) := fun z h => h.cell p2
        have z5 : ∀ z : World, Ext wr z → z.cell? ⟨b, off + k * 7 + 3, none⟩ = some (.slice AN nN cN) := fun z h => h.cell p3
        have z6 : ∀ z : World, Ext wr z → z.cell? ⟨b, off + k * 7 + 4, none⟩ = some (.slice AC nC cC) := fun z h => h.cell p4
        have z7 : ∀ z : World, Ext wr z → z.cell? ⟨b, off + k * 7 + 5, none⟩ = some (.slice AW nW cW) := fun z h => h.cell p5
        have z8 : ∀ z : World, Ext wr z → z.cell? ⟨b, off + k * 7 + 6, none⟩ = some (.bool mt) := fun z h => h.cell p6
        clear c0 c1 c2 c3 c4 c5 c6 p0 p1 p2 p3 p4 p5 p6 t0 t1 t2 t3 t4 t5 t6
        refine region_U' (n := 15) 12 (fun z => Ext wr z) (by kernel_rfl) (by kernel_rfl) ?_
        refine U_take0 (i := 0) (v := ?_) rfl (by kernel_rfl) (fun _ _ _ h => h) (Or.inl ⟨by rfl, ?_⟩) HCC.out ?_
        rotate_left
        · (intro zz hzz; (try dsimp only at hzz); go_simp; try with_reducible rfl)
        ((try simp only [Act.put, List.getElem_toArray, List.getElem_cons_succ, List.getElem_cons_zero]); (try simp only [List.setIfInBounds_toArray]); (try simp only [List.set_cons_succ]); (try simp only [List.set_cons_zero]))
        refine U_take (i := 1) (k := 1) (r := []) (v := ?_) rfl (by kernel_rfl) (fun _ _ _ h => h) (Or.inl ⟨by rfl, ?_⟩) HCC.out ?_
        rotate_left
        · (intro zz hzz; (try dsimp only at hzz); go_simp; try with_reducible rfl)
        ((try simp only [Act.put, List.getElem_toArray, List.getElem_cons_succ, List.getElem_cons_zero]); (try simp only [List.setIfInBounds_toArray]); (try simp only [List.set_cons_succ]); (try simp only [List.set_cons_zero]))
        refine U_take0 (i := 2) (v := ?_) rfl (by kernel_rfl) (fun _ _ _ h => h) (Or.inl ⟨by rfl, ?_⟩) HCC.out ?_
        rotate_left
        · (intro zz hzz; (try dsimp only at hzz); go_simp; try with_reducible rfl)
        ((try simp only [Act.put, List.getElem_toArray, List.getElem_cons_succ, List.getElem_cons_zero]); (try simp only [List.setIfInBounds_toArray]); (try simp only [List.set_cons_succ]); (try simp only [List.set_cons_zero]))
        refine U_take (i := 3) (k := 11) (r := [10, 6, 5, 3]) (v := ?_) rfl (by kernel_rfl) (fun _ _ _ h => h) (Or.inl ⟨by rfl, ?_⟩) HCC.out ?_
        rotate_left
        · (intro zz hzz; (try dsimp only at hzz); go_simp; try with_reducible rfl)
        ((try simp only [Act.put, List.getElem_toArray, List.getElem_cons_succ, List.getElem_cons_zero]); (try simp only [List.setIfInBounds_toArray]); (try simp only [List.set_cons_succ]); (try simp only [List.set_cons_zero]))
        refine U_take0 (i := 4) (v := ?_) rfl (by kernel_rfl) (fun _ _ _ h => h) (Or.inl ⟨by rfl, ?_⟩) HCC.out ?_
        rotate_left
        · (intro zz hzz; (try dsimp only at hzz); go_simp; try with_reducible rfl)
        ((try simp only [Act.put, List.getElem_toArray, List.getElem_cons_succ, List.getElem_cons_zero]); (try simp only [List.setIfInBounds_toArray]); (try simp only [List.set_cons_succ]); (try simp only [List.set_cons_zero]))
        refine U_take0 (i := 5) (v := ?_) rfl (by kernel_rfl) (fun _ _ _ h => h) (Or.inl ⟨by rfl, ?_⟩) HCC.out ?_
        rotate_left
        · (intro zz hzz; (try dsimp only at hzz); go_simp; try with_reducible rfl)
        ((try simp only [Act.put, List.getElem_toArray, List.getElem_cons_succ, List.getElem_cons_zero]); (try simp only [List.setIfInBounds_toArray]); (try simp only [List.set_cons_succ]); (try simp only [List.set_cons_zero]))
        refine U_take (i := 6) (k := 11) (r := [10, 6]) (v := ?_) rfl (by kernel_rfl) (fun _ _ _ h => h) (Or.inl ⟨by rfl, ?_⟩) HCC.out ?_
        rotate_left
        · (intro zz hzz; (try dsimp only at hzz); go_simp; try with_reducible rfl)
        ((try simp only [Act.put, List.getElem_toArray, List.getElem_cons_succ, List.getElem_cons_zero]); (try simp only [List.setIfInBounds_toArray]); (try simp only [List.set_cons_succ]); (try simp only [List.set_cons_zero]))
        refine U_take0 (i := 7) (v := ?_) rfl (by kernel_rfl) (fun _ _ _ h => h) (Or.inl ⟨by rfl, ?_⟩) HCC.out ?_
        rotate_left
        · (intro zz hzz; (try dsimp only at hzz); go_simp; try with_reducible rfl)
        ((try simp only [Act.put, List.getElem_toArray, List.getElem_cons_succ, List.getElem_cons_zero]); (try simp only [List.setIfInBounds_toArray]); (try simp only [List.set_cons_succ]); (try simp only [List.set_cons_zero]))
        refine U_take0 (i := 8) (v := ?_) rfl (by kernel_rfl) (fun _ _ _ h => h) (Or.inl ⟨by rfl, ?_⟩) HCC.out ?_
        rotate_left
        · (intro zz hzz; (try dsimp only at hzz); go_simp; try with_reducible rfl)
        ((try simp only [Act.put, List.getElem_toArray, List.getElem_cons_succ, List.getElem_cons_zero]); (try simp only [List.setIfInBounds_toArray]); (try simp only [List.set_cons_succ]); (try simp only [List.set_cons_zero]))
        refine U_take0 (i := 9) (v := ?_) rfl (by kernel_rfl) (fun _ _ _ h => h) (Or.inl ⟨by rfl, ?_⟩) HCC.out ?_
        rotate_left
        · (intro zz hzz; (try dsimp only at hzz); go_simp; try with_reducible rfl)
        ((try simp only [Act.put, List.getElem_toArray, List.getElem_cons_succ, List.getElem_cons_zero]); (try simp only [List.setIfInBounds_toArray]); (try simp only [List.set_cons_succ]); (try simp only [List.set_cons_zero]))
        have HXR := Lib.hid ((HX3.out.trans HX.out).trans HC0.out)
        refine U_one (i := 10) rfl (by kernel_rfl) ?_
        intro K hK
        refine step_callW (wanted_all rfl) 28 [.tmp 56, .tmp 59] #[52, 66] rfl _ Tryz.func28 rfl (by decide +kernel) [.agg #[.string nmA, .slice AE nE cE, .int .i64 gr, .slice AN nN cN, .slice AC nC cC, .slice AW nW cW, .bool mt], TV false (qt : Int)] (by rfl)
          (turned_any0 nmA AE AN AC AW nE cE nN cN nC cC nW cW gr mt false (qt : Int) X.p.es X.p.cs X.p.ws X.p.ns wr.drew (HE.out.ext HXR.out) hE20 (by omega) (fun j hj => Nat.le_trans (HLL.out j (by omega)).1 (by omega)) (HC'.out.ext HXR.out) hC20 (by omega) (HW'.out.ext HXR.out) hW20 (by omega) (HN'.out.ext HXR.out) hN20 (by omega)) (fun e w6 h => ?_)
        obtain ⟨vE, vC, vW, vN, rfl, hoE, hoC, hoW, hoN, he6⟩ := h
        have HX6 : Hid (Ext wr w6) := HC0.out.trans he6
        obtain ⟨aN, hcl, hnm, hgr, hps⟩ := pcs_own (base := w3.heap.size) (nm := nmA) (gr := gr) (mt := mt) hoE hoC hoW hoN (by rw [turnC, if_neg (by decide), List.length_map]; omega) (by rw [turnW, if_neg (by decide)]; omega) (by rw [turnNs, if_neg (by decide)]; omega)
        have HPSN : Hid (PcS w3.heap.size w6 aN (tnPc X.p (qt : Int))) := by
          have e : (⟨turnE false (qt : Int) X.p.es, turnC false (qt : Int) nE X.p.cs, turnW false nE X.p.ws, turnNs false X.p.es X.p.ns⟩ : Pc) = tnPc X.p (qt : Int) := by rw [← hE20]; rfl
          rw [e] at hps
          exact hps
        obtain ⟨nmB, BE, mE, dE, grB, BN, mN, dN, BC, mC, dC, BW, mW, dW, mtB⟩ := aN
        simp only at hnm hgr
        subst hnm hgr
        simp only [PcA.cells, List.cons.injEq, true_and, and_true, Value.bool.injEq] at hcl
        obtain ⟨hvE, hvN, hvC, hvW, hmt⟩ := hcl
        subst hvE hvN hvC hvW hmt
        refine ⟨_, rfl, hK _ _ (fun _ => HX6.out) ?_⟩
        clear hK K hoE hoC hoW hoN he6 hps
        ((try simp only [Act.put, List.getElem_toArray, List.getElem_cons_succ, List.getElem_cons_zero]); (try simp only [List.setIfInBounds_toArray]); (try simp only [List.set_cons_succ]); (try simp only [List.set_cons_zero]))
        obtain ⟨ps, hpp, hor⟩ := HOT.out
        have HPP := Lib.hid hpp; have HOR := Lib.hid hor
        clear hpp hor
        have CH : Hid (Ext wr (w6.alloc (.cells #[.string nmB, .slice BE mE dE, .int .i64 grB, .slice BN mN dN, .slice BC mC dC, .slice BW mW dW, .bool mt] 52))) := Ext.alloc HX6.out _
        have CH6 : Hid (Ext w6 (w6.alloc (.cells #[.string nmB, .slice BE mE dE, .int .i64 grB, .slice BN mN dN, .slice BC mC dC, .slice BW mW dW, .bool mt] 52))) := (Ext.refl _).alloc _
        refine U_one (i := 11) rfl (by kernel_rfl) ?_
        intro K hK
        go_simp
        refine hK _ _ (fun _ => CH.out) ?_
        clear hK K
        ((try simp only [Act.put, List.getElem_toArray, List.getElem_cons_succ, List.getElem_cons_zero]); (try simp only [List.setIfInBounds_toArray]); (try simp only [List.set_cons_succ]); (try simp only [List.set_cons_zero]))
        refine U_one (i := 12) rfl (by kernel_rfl) ?_
        intro K hK
        refine step_append_lies _ (by rfl) (.tmp 51) (.tmp 61) 24 (by rfl) w3.heap.size 52 i0 (.agg #[.string ⟨#[]⟩, .slice none 0 0, .int .i64 0, .slice none 0 0, .slice none 0 0, .slice none 0 0, .bool false]) 7 128 Tryz.underlying24 hi0 hz0 hz1 hz2 rfl (by decide) (.slice VA LK.length vc) LK.length (pxs ps) (by rfl)
               (own_ext HOR.out CH.out) ⟨w6.heap.size, 0, none⟩ 1 1 [.string nmB, .slice BE mE dE, .int .i64 grB, .slice BN mN dN, .slice BC mC dC, .slice BW mW dW, .bool mt] (by rfl) (by rfl)
               (World.news_of_block (cs := #[.string nmB, .slice BE mE dE, .int .i64 grB, .slice BN mN dN, .slice BC mC dC, .slice BW mW dW, .bool mt]) (t := 52) (fr := (0, 0)) (heap_alloc_new w6 _)) (by simp [Value.oneCell']) (by decide) (by have := HNP.out; rw [HLKL.out]; unfold maxLen; omega) (by have := HNP.out; rw [HLKL.out]; omega)
               (Nat.le_trans (Nat.le_trans HX.out.size HX6.out.size) (by simp)) (w6.heap.size + 1) (by simp) ?_
        intro gg cap wn hown1 hgrow hat hltn
        have HFIN := Lib.hid (two_app (j := 3) (X := ⟨X.nm, X.gr, tnPc X.p (qt : Int)⟩) rfl (HTr.out.ext CH.out) (HUr.out.ext CH.out) HTU.out (Nat.le_trans HT3.out.1 (Nat.le_refl _)) (own_ext HOR.out CH.out) (HPP.out.st (St.ofExt CH.out)) (HPSN.out.st (St.ofExt CH6.out)) HNN.out.1 HNN.out.2 (HOU.out.ext CH.out) HAP.out (HX.out.trans CH.out) hgrow hown1 (by simpa using hat))
        have HTn : Hid (Blk 29 wn T _) := Lib.hid ((hgrow.block _ (HTr.out.ext CH.out).lt (Ne.symm (own_blk_ne (own_ext HOR.out CH.out) (HTr.out.ext CH.out) (by decide)))).trans (HTr.out.ext CH.out))
        obtain ⟨y0, y1, y2, y3, y4, y5, y6⟩ := blk7 HTn.out
        have yf := HTn.out.frozen 3
        refine hK _ _ (fun h => absurd (h.symm.trans (by kernel_rfl)) Bool.false_ne_true) ?_
        clear hK K
        ((try simp only [Act.put, List.getElem_toArray, List.getElem_cons_succ, List.getElem_cons_zero]); (try simp only [List.setIfInBounds_toArray]); (try simp only [List.set_cons_succ]); (try simp only [List.set_cons_zero]))
        refine U_one (i := 13) rfl (by kernel_rfl) ?_
        intro K hK
        go_simp
        refine hK _ _ (fun h => absurd (h.symm.trans (by kernel_rfl)) Bool.false_ne_true) ?_
        clear hK K
        ((try simp only [Act.put, List.getElem_toArray, List.getElem_cons_succ, List.getElem_cons_zero]); (try simp only [List.setIfInBounds_toArray]); (try simp only [List.set_cons_succ]); (try simp only [List.set_cons_zero]))
        refine U_one (i := 14) rfl (by kernel_rfl) ?_
        intro K hK
        go_simp
        refine hK _ _ (fun h => absurd (h.symm.trans (by kernel_rfl)) Bool.false_ne_true) ?_
        clear hK K
        refine U_done (by kernel_rfl) ?_
        clear hown1 hgrow hat hltn y0 y1 y2 y3 y4 y5 y6 yf z0 z1 z2 z3 z4 z5 z6 z7 z8 HTn
        obtain ⟨w8, hw8⟩ : ∃ y, y = wn.setCell ⟨T, 3, none⟩ (.slice (some ⟨gg, 0, none⟩) (LK.length + 1) cap) := ⟨_, rfl⟩
        rw [← hw8] at HFIN ⊢
        obtain ⟨vT', hvT'⟩ : ∃ y, y = Value.slice (some ⟨gg, 0, none⟩) (LK.length + 1) cap := ⟨_, rfl⟩
        rw [← hvT'] at HFIN
        clear hw8 hvT' CH CH6 HOR HPP HPSN HXR HX6 HTr HUr HOT HOU HAP HX HBr HC0 HCC
        have HX8 := Lib.hid HFIN.out.2.2.2.2.2
        have HB8 := Lib.hid (HB3.out.ext HX8.out); have HC8 := Lib.hid (HCW.out.ext (HX3.out.trans HX8.out))
        obtain ⟨c0, c1, c2, c3, c4, c5, c6⟩ := blk7 HB8.out
        obtain ⟨p0, p1, p2, p3, p4, p5, p6⟩ := HC8.out
        go_upto_region 11 with fail
        refine wp_at fun w9 hw9 => ?_
        have HQ9 : Hid (Blk 52 w9 w8.heap.size [.string nmB, .slice none 0 0, .int .i64 grB, .slice AN nN cN, .slice AC nC cC, .slice AW nW cW, .bool mt]) := by show Blk _ _ _ _; rw [hw9]; exact Blk.new' rfl
        have HX9 : Hid (Ext w8 w9) := by show Ext _ _; rw [hw9]; exact (Ext.refl _).alloc _
        obtain ⟨O, hO⟩ : ∃ y, y = w8.heap.size := ⟨_, rfl⟩
        have HOL : Hid (w8.heap.size ≤ O) := Nat.le_of_eq hO.symm
        rw [← hO] at HQ9 ⊢
        clear hw9 hO c0 c1 c2 c3 c4 c5 c6 p0 p1 p2 p3 p4 p5 p6
        go_wp2_with fail
        go_loopw [15] (fun i wi => ∃ (j : Nat) (vE : Value), j ≤ nE ∧ i = .int .i64 j ∧ Blk 52 wi O [.string nmB, vE, .int .i64 grB, .slice AN nN cN, .slice AC nC cC, .slice AW nW cW, .bool mt] ∧ OwnE wi w9.heap.size vE ((mvE (dx, dy) X.p.es).take j) ∧ Kept (fun y => y = O) w9 wi) (fun i _ => nE - (intOf i).toNat)
        case atStart => exact ⟨0, .slice none 0 0, Nat.zero_le _, rfl, HQ9.out, OwnE.nil _ _, Kept.refl _ _⟩
        case round =>
          obtain ⟨wq, rfl⟩ : ∃ wq : World, wq = wr := ⟨_, rfl⟩
          obtain ⟨j, vE, hj, rfl, hq, hoe, hkq⟩ := hrel
          have HQq := Lib.hid hq; have HOE := Lib.hid hoe; have HKQ := Lib.hid hkq
          have HXq : Hid (Ext w8 wq) := HKQ.out.ext HX9.out (fun y hy => by subst hy; exact HOL.out)
          clear hq hoe hkq
          have HBq := Lib.hid (HB8.out.ext HXq.out); have HCq := Lib.hid (HC8.out.ext HXq.out); have HDq := Lib.hid (HD3.out.ext (HX8.out.trans HXq.out))
          have HXWq := Lib.hid ((HX3.out.trans HX8.out).trans HXq.out)
          obtain ⟨c0, c1, c2, c3, c4, c5, c6⟩ := blk7 HBq.out
          have p1 := HCq.out.c1
          simp only at p1
          by_cases hjl : j < nE
          · obtain ⟨be, oe, Lx, cLx, rfl, hc0, hc1, hS, hcL, hcL'⟩ := (HE.out.ext HXWq.out).g (k := j) (by rw [hE20]; exact hjl)
            have hll : (gE X.p.es j).2.length ≤ 80 := (HLL.out j (by rw [hE20]; exact hjl)).1
            obtain ⟨lx, hlx⟩ : ∃ y, y = (gE X.p.es j).2 := ⟨_, rfl⟩
            obtain ⟨ln, hln⟩ : ∃ y, y = (gE X.p.es j).1 := ⟨_, rfl⟩
            rw [← hlx] at hc1 hS hll
            rw [← hln] at hc0
            have HMG : Hid (gE (mvE (dx, dy) X.p.es) j = (ln, lx.map (moveS (dx, dy)))) := by show _ = _; rw [mvE_get (by rw [hE20]; exact hjl), ← hlx, ← hln]
            have HSx := Lib.hid hS
            have hjl1 : (j : Int) < nE := by omega
            have hj0 : (0 : Int) ≤ j := by omega
            have hql : O < wq.heap.size := HQq.out.lt
            clear hlx hln hS hcL hcL'
            go_upto_region 15 with fail
            refine wp_at fun wa hwa => ?_
            have HEa : Hid (Blk 57 wa wq.heap.size [.string ln, .slice Lx lx.length cLx]) := by show Blk _ _ _ _; rw [hwa]; exact Blk.new' rfl
            have HXa : Hid (Ext wq wa) := by show Ext _ _; rw [hwa]; exact (Ext.refl _).alloc _
            obtain ⟨EB, hEB⟩ : ∃ y, y = wq.heap.size := ⟨_, rfl⟩
            rw [← hEB] at HEa ⊢
            clear hwa hEB c0 c1 c2 c3 c4 c5 c6 p1 hc0 hc1
            obtain ⟨VB, vd, hvE, _, hvd, _⟩ := HOE.out.slice
            obtain ⟨LJ, hLJ⟩ : ∃ y, y = (mvE (dx, dy) X.p.es).take j := ⟨_, rfl⟩
            have HLJL : Hid (LJ.length = j) := by show _ = _; rw [hLJ, List.length_take, mvE_len, hE20]; omega
            have HLJE := Lib.hid hLJ
            rw [← hLJ] at HOE hvE hvd
            clear hLJ
            subst hvE
            have HQa := Lib.hid (HQq.out.ext HXa.out); have HDa := Lib.hid (HDq.out.ext HXa.out); have HKa := Lib.hid (HKQ.out.trans (HXa.out.kept _))
            have HOEa := Lib.hid (HOE.out.ext HXa.out)
            obtain ⟨q0, q1, q2, q3, q4, q5, q6⟩ := blk7 HQa.out
            obtain ⟨e0, e1⟩ := blk2 HEa.out
            obtain ⟨d0, d1⟩ := blk2 HDa.out
            have hqa : O < wa.heap.size := HQa.out.lt
            have HC0 : Hid (Ext wa wa.drew) := Ext.drew (Ext.refl _)
            have HCC : Hid (Ext wa wa.drew) := HC0
            have z0 : ∀ z : World, Ext wa z → z.cell? ⟨O, 1, none⟩ = some (.slice VB LJ.length vd) := fun z h => h.cell q1
            have z1 : ∀ z : World, Ext wa z → z.cell? ⟨EB, 0, none⟩ = some (.string ln) := fun z h => h.cell e0
            have z2 : ∀ z : World, Ext wa z → z.cell? ⟨EB, 1, none⟩ = some (.slice Lx lx.length cLx) := fun z h => h.cell e1
            have z3 : ∀ z : World, Ext wa z → z.cell? ⟨w.heap.size + 1 + 1, 0, none⟩ = some (.int .i64 dx) := fun z h => h.cell d0
            have z4 : ∀ z : World, Ext wa z → z.cell? ⟨w.heap.size + 1 + 1, 1, none⟩ = some (.int .i64 dy) := fun z h => h.cell d1
            clear q0 q1 q2 q3 q4 q5 q6 e0 e1 d0 d1
            refine region_U' (n := 13) 10 (fun z => Ext wa z) (by kernel_rfl) (by kernel_rfl) ?_
            refine U_take0 (i := 0) (v := ?_) rfl (by kernel_rfl) (fun _ _ _ h => h) (Or.inl ⟨by rfl, ?_⟩) HCC.out ?_
            rotate_left
            · (intro zz hzz; (try dsimp only at hzz); go_simp; try with_reducible rfl)
            ((try simp only [Act.put, List.getElem_toArray, List.getElem_cons_succ, List.getElem_cons_zero]); (try simp only [List.setIfInBounds_toArray]); (try simp only [List.set_cons_succ]); (try simp only [List.set_cons_zero]))
            refine U_take (i := 1) (k := 1) (r := []) (v := ?_) rfl (by kernel_rfl) (fun _ _ _ h => h) (Or.inl ⟨by rfl, ?_⟩) HCC.out ?_
            rotate_left
            · (intro zz hzz; (try dsimp only at hzz); go_simp; try with_reducible rfl)
            ((try simp only [Act.put, List.getElem_toArray, List.getElem_cons_succ, List.getElem_cons_zero]); (try simp only [List.setIfInBounds_toArray]); (try simp only [List.set_cons_succ]); (try simp only [List.set_cons_zero]))
            refine U_take0 (i := 2) (v := ?_) rfl (by kernel_rfl) (fun _ _ _ h => h) (Or.inl ⟨by rfl, ?_⟩) HCC.out ?_
            rotate_left
            · (intro zz hzz; (try dsimp only at hzz); go_simp; try with_reducible rfl)
            ((try simp only [Act.put, List.getElem_toArray, List.getElem_cons_succ, List.getElem_cons_zero]); (try simp only [List.setIfInBounds_toArray]); (try simp only [List.set_cons_succ]); (try simp only [List.set_cons_zero]))
            refine U_take (i := 3) (k := 9) (r := [8, 3]) (v := ?_) rfl (by kernel_rfl) (fun _ _ _ h => h) (Or.inl ⟨by rfl, ?_⟩) HCC.out ?_
            rotate_left
            · (intro zz hzz; (try dsimp only at hzz); go_simp; try with_reducible rfl)
            ((try simp only [Act.put, List.getElem_toArray, List.getElem_cons_succ, List.getElem_cons_zero]); (try simp only [List.setIfInBounds_toArray]); (try simp only [List.set_cons_succ]); (try simp only [List.set_cons_zero]))
            refine U_take0 (i := 4) (v := ?_) rfl (by kernel_rfl) (fun _ _ _ h => h) (Or.inl ⟨by rfl, ?_⟩) HCC.out ?_
            rotate_left
            · (intro zz hzz; (try dsimp only at hzz); go_simp; try with_reducible rfl)
            ((try simp only [Act.put, List.getElem_toArray, List.getElem_cons_succ, List.getElem_cons_zero]); (try simp only [List.setIfInBounds_toArray]); (try simp only [List.set_cons_succ]); (try simp only [List.set_cons_zero]))
            refine U_take (i := 5) (k := 9) (r := [8, 7, 5]) (v := ?_) rfl (by kernel_rfl) (fun _ _ _ h => h) (Or.inl ⟨by rfl, ?_⟩) HCC.out ?_
            rotate_left
            · (intro zz hzz; (try dsimp only at hzz); go_simp; try with_reducible rfl)
            ((try simp only [Act.put, List.getElem_toArray, List.getElem_cons_succ, List.getElem_cons_zero]); (try simp only [List.setIfInBounds_toArray]); (try simp only [List.set_cons_succ]); (try simp only [List.set_cons_zero]))
            refine U_take (i := 6) (k := 9) (r := [8, 7, 6]) (v := ?_) rfl (by kernel_rfl) (fun _ _ _ h => h) (Or.inl ⟨by rfl, ?_⟩) HCC.out ?_
            rotate_left
            · (intro zz hzz; (try dsimp only at hzz); go_simp; try with_reducible rfl)
            ((try simp only [Act.put, List.getElem_toArray, List.getElem_cons_succ, List.getElem_cons_zero]); (try simp only [List.setIfInBounds_toArray]); (try simp only [List.set_cons_succ]); (try simp only [List.set_cons_zero]))
            refine U_one (i := 7) rfl (by kernel_rfl) ?_
            intro K hK
            refine step_callW (wanted_all rfl) 29 [.tmp 95, .tmp 96] #[50, 62] rfl _ Tryz.func29 rfl (by decide +kernel) [.slice Lx lx.length cLx, SV (dx, dy)] (by rfl)
              (move_any Lx lx.length cLx lx (dx, dy) wa.drew (HSx.out.ext (HXa.out.trans HC0.out)) rfl (Nat.le_trans hll (by omega))) (fun e wb h => ?_)
            obtain ⟨vm, rfl, hom, heb⟩ := h
            obtain ⟨Bm, cm, hbm⟩ := hom.form2
            rw [List.length_map] at hbm
            subst hbm
            have HXb : Hid (Ext wa wb) := HC0.out.trans heb
            have HOM := Lib.hid hom
            refine ⟨_, rfl, hK _ _ (fun _ => HXb.out) ?_⟩
            clear hK K hom heb
            ((try simp only [Act.put, List.getElem_toArray, List.getElem_cons_succ, List.getElem_cons_zero]); (try simp only [List.setIfInBounds_toArray]); (try simp only [List.set_cons_succ]); (try simp only [List.set_cons_zero]))
            refine U_one (i := 8) rfl (by kernel_rfl) ?_
            intro K hK
            go_simp
            refine hK _ _ (fun _ => HXb.out) ?_
            clear hK K
            ((try simp only [Act.put, List.getElem_toArray, List.getElem_cons_succ, List.getElem_cons_zero]); (try simp only [List.setIfInBounds_toArray]); (try simp only [List.set_cons_succ]); (try simp only [List.set_cons_zero]))
            obtain ⟨ps, hpp, hor⟩ := HOEa.out
            have HPP := Lib.hid hpp; have HOR := Lib.hid hor
            clear hpp hor
            have CH : Hid (Ext wa (wb.alloc (.cells #[.string ln, .slice Bm lx.length cm] 57))) := Ext.alloc HXb.out _
            have CHb : Hid (Ext wb (wb.alloc (.cells #[.string ln, .slice Bm lx.length cm] 57))) := (Ext.refl _).alloc _
            refine U_one (i := 9) rfl (by kernel_rfl) ?_
            intro K hK
            go_simp
            refine hK _ _ (fun _ => CH.out) ?_
            clear hK K
            ((try simp only [Act.put, List.getElem_toArray, List.getElem_cons_succ, List.getElem_cons_zero]); (try simp only [List.setIfInBounds_toArray]); (try simp only [List.set_cons_succ]); (try simp only [List.set_cons_zero]))
            refine U_one (i := 10) rfl (by kernel_rfl) ?_
            intro K hK
            refine step_append_lies _ (by rfl) (.tmp 91) (.tmp 99) 48 (by rfl) w9.heap.size 57 i1 (.agg #[.string ⟨#[]⟩, .slice none 0 0]) 2 40 Tryz.underlying48 hi1 hy0 hy1 hy2 rfl (by decide) (.slice VB LJ.length vd) LJ.length (ecells ps) (by rfl)
                   (own_ext HOR.out CH.out) ⟨wb.heap.size, 0, none⟩ 1 1 [.string ln, .slice Bm lx.length cm] (by rfl) (by rfl)
                   (World.news_of_block (cs := #[.string ln, .slice Bm lx.length cm]) (t := 57) (fr := (0, 0)) (heap_alloc_new wb _)) (by simp [Value.oneCell']) (by decide) (by rw [HLJL.out]; unfold maxLen; omega) (by rw [HLJL.out]; omega)
                   (Nat.le_trans (Nat.le_trans HKa.out.size HXb.out.size) (by simp)) (wb.heap.size + 1) (by simp) ?_
            intro gg2 cap2 wn2 hown1 hgrow hat hltn
            have HFN2 := Lib.hid (edge_app (j := 1) (en := (ln, .slice Bm lx.length cm)) (e := (ln, lx.map (moveS (dx, dy)))) rfl (HQa.out.ext CH.out) (own_ext HOR.out CH.out) (HPP.out.ext CH.out) ⟨rfl, own_base_le (own_ext HOM.out CHb.out) HKa.out.size⟩ (HKa.out.trans (CH.out.kept _)) hgrow hown1)
            have HQn : Hid (Blk 52 wn2 O _) := Lib.hid ((hgrow.block _ (HQa.out.ext CH.out).lt (Ne.symm (own_blk_ne (own_ext HOR.out CH.out) (HQa.out.ext CH.out) (by decide)))).trans (HQa.out.ext CH.out))
            obtain ⟨y0, y1, y2, y3, y4, y5, y6⟩ := blk7 HQn.out
            have yf := HQn.out.frozen 1
            refine hK _ _ (fun h => absurd (h.symm.trans (by kernel_rfl)) Bool.false_ne_true) ?_
            clear hK K
            ((try simp only [Act.put, List.getElem_toArray, List.getElem_cons_succ, List.getElem_cons_zero]); (try simp only [List.setIfInBounds_toArray]); (try simp only [List.set_cons_succ]); (try simp only [List.set_cons_zero]))
            refine U_one (i := 11) rfl (by kernel_rfl) ?_
            intro K hK
            go_simp
            refine hK _ _ (fun h => absurd (h.symm.trans (by kernel_rfl)) Bool.false_ne_true) ?_
            clear hK K
            ((try simp only [Act.put, List.getElem_toArray, List.getElem_cons_succ, List.getElem_cons_zero]); (try simp only [List.setIfInBounds_toArray]); (try simp only [List.set_cons_succ]); (try simp only [List.set_cons_zero]))
            refine U_one (i := 12) rfl (by kernel_rfl) ?_
            intro K hK
            go_simp
            refine hK _ _ (fun h => absurd (h.symm.trans (by kernel_rfl)) Bool.false_ne_true) ?_
            clear hK K
            refine U_done (by kernel_rfl) ?_
            clear hown1 hgrow hat hltn y0 y1 y2 y3 y4 y5 y6 yf z0 z1 z2 z3 z4 HQn
            go_wp2_with fail
            go_roundw
            · refine ⟨j + 1, _, by omega, by go_num, HFN2.out.1, ?_, HFN2.out.2.2⟩
              rw [take_succ _ j (by rw [mvE_len, hE20]; exact hjl), ← HLJE.out, ← gE_eq, HMG.out]
              exact HFN2.out.2.1
            · simp only [intOf]; omega
          · obtain rfl : nE = j := by omega
            have HFULL : Hid ((mvE (dx, dy) X.p.es).take nE = mvE (dx, dy) X.p.es) := by show _ = _; rw [← hE20]; exact List.take_of_length_le (by rw [mvE_len]; exact Nat.le_refl _)
            rw [HFULL.out] at HOE
            obtain ⟨VB, vd, hvE, _, hvd, _⟩ := HOE.out.slice
            rw [mvE_len, hE20] at hvE
            subst hvE
            obtain ⟨aU, hcu, hnu, hgu, hpu⟩ := pcs_edges (HPC.out.ext HX3.out) (HX8.out.trans HXq.out) HOE.out
            have HCU := Lib.hid hcu
            have HPU : Hid (PcS w3.heap.size wq aU (mvP (dx, dy) X.p)) := hpu
            have HNU : Hid (aU.nm = X.nm ∧ aU.gr = X.gr) := ⟨hnu.trans HNN.out.1, hgu.trans HNN.out.2⟩
            clear hcu hpu hnu hgu
            have HOTq := Lib.hid (HFIN.out.1.ext HXq.out); have HOUq := Lib.hid (HFIN.out.2.1.ext HXq.out); have HAPq := Lib.hid HFIN.out.2.2.1
            have HTq := Lib.hid (HFIN.out.2.2.2.1.ext HXq.out); have HUq := Lib.hid (HFIN.out.2.2.2.2.1.ext HXq.out); have HX3q := Lib.hid (HX8.out.trans HXq.out)
            clear HFIN
            obtain ⟨VC, ve, hvU, _, hve, _⟩ := HOUq.out.slice
            obtain ⟨LV, hLV⟩ : ∃ y, y = LU.take k := ⟨_, rfl⟩
            have HLVL : Hid (LV.length = k) := by show _ = _; rw [hLV, List.length_take, HLUL.out]; omega
            have HLVE := Lib.hid hLV
            rw [← hLV] at HOUq hvU hve
            clear hLV
            subst hvU
            obtain ⟨ps, hpp, hor⟩ := HOUq.out
            have HPP := Lib.hid hpp; have HOR := Lib.hid hor
            clear hpp hor
            have HW : Hid (Ext wq (wq.alloc (.cells #[.string nmB, .slice VB nE vd, .int .i64 grB, .slice AN nN cN, .slice AC nC cC, .slice AW nW cW, .bool mt] 52))) := (Ext.refl _).alloc _
            obtain ⟨q0, q1, q2, q3, q4, q5, q6⟩ := blk7 HQq.out
            obtain ⟨u0, u1, u2, u3, u4, u5, u6⟩ := blk7 HUq.out
            have hUl : U < wq.heap.size := HUq.out.lt
            have hql : O < wq.heap.size := HQq.out.lt
            go_wp2_with (at_builtin; refine wpList_append_lies _ rfl (.tmp 103) (.tmp 105) 24 rfl w3.heap.size 52 i0 (.agg #[.string ⟨#[]⟩, .slice none 0 0, .int .i64 0, .slice none 0 0, .slice none 0 0, .slice none 0 0, .bool false]) 7 128 Tryz.underlying24 hi0 hz0 hz1 hz2 rfl (by decide) (.slice VC LV.length ve) LV.length (pxs ps) rfl (own_ext HOR.out HW.out) ⟨wq.heap.size, 0, none⟩ 1 1 [.string nmB, .slice VB nE vd, .int .i64 grB, .slice AN nN cN, .slice AC nC cC, .slice AW nW cW, .bool mt] rfl ?c1 ?c2 ?c3 ?c4 ?c5 ?c6 ?c7 (wq.heap.size + 1) ?c8 ?_)
            case c3 => simp [Value.oneCell']
            case c5 => have := HNP.out; rw [HLVL.out]; unfold maxLen; omega
            case c6 => have := HNP.out; rw [HLVL.out]; omega
            case c7 => have := HX3q.out.size; omega
            intro gg3 cap3 wn3 hown1 hgrow hat hltn
            have HFU := Lib.hid (two_app (j := 3) (a := aU) (X := ⟨X.nm, X.gr, mvP (dx, dy) X.p⟩) rfl (HUq.out.ext HW.out) (HTq.out.ext HW.out) (Ne.symm HTU.out) HT3.out.2 (own_ext HOR.out HW.out) (HPP.out.st (St.ofExt HW.out)) (HPU.out.st (St.ofExt HW.out)) HNU.out.1 HNU.out.2 (HOTq.out.ext HW.out) (fun g h1 h2 => HAPq.out g h2 h1) (HX3q.out.trans HW.out) hgrow (by rw [← HCU.out]; exact hown1) (by simpa using hat))
            have HUn : Hid (Blk 29 wn3 U _) := Lib.hid ((hgrow.block _ (HUq.out.ext HW.out).lt (Ne.symm (own_blk_ne (own_ext HOR.out HW.out) (HUq.out.ext HW.out) (by decide)))).trans (HUq.out.ext HW.out))
            obtain ⟨y0, y1, y2, y3, y4, y5, y6⟩ := blk7 HUn.out
            have yf := HUn.out.frozen 3
            clear hown1 hgrow hat hltn q0 q1 q2 q3 q4 q5 q6 u0 u1 u2 u3 u4 u5 u6 c0 c1 c2 c3 c4 c5 c6 p1
            have hn14 : nP ≤ 14 := HNP.out
            go_wp2_with fail
            go_roundw
            · have hT1 : LT.take (k + 1) = LK ++ [⟨X.nm, X.gr, tnPc X.p (qt : Int)⟩] := by
                rw [take_succ _ k (by rw [HLTL.out]; exact hlt), ← HLKE.out, ← gPx_eq, HLTG.out k hlt, HXE.out]
              have hU1 : LU.take (k + 1) = LV ++ [⟨X.nm, X.gr, mvP (dx, dy) X.p⟩] := by
                rw [take_succ _ k (by rw [HLUL.out]; exact hlt), ← HLVE.out, ← gPx_eq, HLUG.out k hlt, HXE.out]
              refine ⟨k + 1, vT', _, by omega, by go_num, ?_, ?_, (fun g h1 h2 => HFU.out.2.2.1 g h2 h1), HFU.out.2.2.2.2.1, HFU.out.2.2.2.1, HFU.out.2.2.2.2.2⟩
              · rw [hT1]; exact HFU.out.2.1
              · rw [hU1]; exact HFU.out.1
            · simp only [intOf]; omega
      · obtain rfl : k = nP := by omega
        obtain ⟨wz, rfl⟩ : ∃ wz : World, wz = wr := ⟨_, rfl⟩
        have hTF : LT.take k = LT := List.take_of_length_le (by rw [HLTL.out]; exact Nat.le_refl _)
        have hUF : LU.take k = LU := List.take_of_length_le (by rw [HLUL.out]; exact Nat.le_refl _)
        have hoT := HOT.out; have hoU := HOU.out
        rw [hTF] at hoT
        rw [hUF] at hoU
        obtain ⟨BT, bt, hvT, hPT, hbt, hbt'⟩ := hoT.slice
        obtain ⟨BU, bu, hvU, hPU, hbu, hbu'⟩ := hoU.slice
        rw [HLTL.out] at hvT hbt
        rw [HLUL.out] at hvU hbu
        subst hvT hvU
        have HXZ := Lib.hid (HX3.out.trans HX.out)
        have HSZ := Lib.hid (HS.out.ext HXZ.out)
        rw [HLTE.out] at hPT
        rw [HLUE.out] at hPU
        have HST : Hid (StyXAt wz ⟨nm, AS, nS, cS, AM, nM, cM, BT, k, bt, AU, nU, cU, AK, nK, cK, AO, nO, cO⟩ (mapX x fun p => tnPc p (qt : Int))) :=
          ⟨HSZ.out.nm, HSZ.out.S, HSZ.out.M, hPT, HSZ.out.U, HSZ.out.K, HSZ.out.lS, HSZ.out.lM, (mapX_len _ _).trans HLP.out, HSZ.out.lU, HSZ.out.lK, HSZ.out.lO, HSZ.out.bS, HSZ.out.bM, HSZ.out.bP, HSZ.out.bU, HSZ.out.bK, HSZ.out.bO, hbt, HSZ.out.cS⟩
        have HSU : Hid (StyXAt wz ⟨nm, AS, nS, cS, AM, nM, cM, BU, k, bu, AU, nU, cU, AK, nK, cK, AO, nO, cO⟩ (mapX x (mvP (dx, dy)))) :=
          ⟨HSZ.out.nm, HSZ.out.S, HSZ.out.M, hPU, HSZ.out.U, HSZ.out.K, HSZ.out.lS, HSZ.out.lM, (mapX_len _ _).trans HLP.out, HSZ.out.lU, HSZ.out.lK, HSZ.out.lO, HSZ.out.bS, HSZ.out.bM, HSZ.out.bP, HSZ.out.bU, HSZ.out.bK, HSZ.out.bO, hbu, HSZ.out.cS⟩
        have HNz := Lib.hid (HN3.out.ext HX.out)
        have HLENU : Hid (∀ y, y < (mapX x (mvP (dx, dy))).ps.length → (gPx (mapX x (mvP (dx, dy))).ps y).p.es.length ≤ 1000 ∧ (gPx (mapX x (mvP (dx, dy))).ps y).p.cs.length ≤ 1000) := fun y hy => by
          rw [mapX_len] at hy
          rw [mapX_get hy]
          exact ⟨by simp only [mvP, mvE_len]; exact (HLT.out.ll y hy).1, (HLT.out.ll y hy).2⟩
        have HT' := Lib.hid (HT.out _ HXZ.out)
        have HTn' := Lib.hid (fun W (h : Ext wz W) => HTM.out _ _ W (HXZ.out.trans h) (HST.out.ext h))
        have HTu' := Lib.hid (fun W (h : Ext wz W) => HTM.out _ _ W (HXZ.out.trans h) (HSU.out.ext h))
        have HCu' := Lib.hid (fun W (h : Ext wz W) => HCM.out _ _ W (HSU.out.ext h) HLENU.out)
        have htn := tnX_targ (q := (qt : Int)) (z := z) (p := p) HWF.out HSE.out
        have HMV := Lib.hid (fun h0 h1 => mvX_targ (x := x) (z := z) (p := p) (d := (dx, dy)) HIN.out h0 h1)
        rw [htn.1, htn.2] at HTn'
        clear htn hTF hUF hoT hoU hPT hPU hbt hbt' hbu hbu' HST HSU HSZ HLENU HTM HCM HOT HOU HAP HT HLTE HLUE HLTG HLUG HLTL HLUL
        simp only [StyA.val] at HTn' HTu' HCu'
        obtain ⟨TE, hTE⟩ : ∃ y, y = targE x p z := ⟨_, rfl⟩
        obtain ⟨TV, hTV⟩ : ∃ y, y = targV x p z := ⟨_, rfl⟩
        obtain ⟨UE, hUE⟩ : ∃ y, y = targE (mapX x (mvP (dx, dy))) p z := ⟨_, rfl⟩
        obtain ⟨UV, hUV⟩ : ∃ y, y = targV (mapX x (mvP (dx, dy))) p z := ⟨_, rfl⟩
        obtain ⟨CU, hCU⟩ : ∃ y, y = styE (mapX x (mvP (dx, dy))) := ⟨_, rfl⟩
        rw [← hTE, ← hTV] at HT' HTn' HMV
        rw [← hUE, ← hUV] at HTu' HMV
        rw [← hCU] at HCu'
        clear hTE hTV hUE hUV hCU
        obtain ⟨n0, n1, n2, n3, n4⟩ := blk5 HNz.out
        go_wp2_with fail
        refine (HT'.out).mono ?_
        rintro e wa ⟨rfl, hea⟩
        have HXa := Lib.hid hea; have HTa := Lib.hid (HTr.out.ext hea); have HUa := Lib.hid (HUr.out.ext hea); have HNa := Lib.hid (HNz.out.ext hea)
        clear hea c0 c1 c2 c3 c4 c5 c6 n0 n1 n2 n3 n4 HT'
        obtain ⟨t0, t1, t2, t3, t4, t5, t6⟩ := blk7 HTa.out
        obtain ⟨n0, n1, n2, n3, n4⟩ := blk5 HNa.out
        go_wp2_with fail
        refine (HTn'.out wa HXa.out).mono ?_
        rintro e wb ⟨rfl, heb⟩
        have HXb := Lib.hid (HXa.out.trans heb); have HUb := Lib.hid (HUa.out.ext heb); have HNb := Lib.hid (HNa.out.ext heb)
        clear heb t0 t1 t2 t3 t4 t5 t6 n0 n1 n2 n3 n4 HTn' HXa HTa HUa HNa
        obtain ⟨t0, t1, t2, t3, t4, t5, t6⟩ := blk7 HUb.out
        obtain ⟨n0, n1, n2, n3, n4⟩ := blk5 HNb.out
        have hvv : (TV != TV) = false := by simp
        have hee : (TE != TE) = false := by simp
        go_wp2_with fail
        refine (HTu'.out wb HXb.out).mono ?_
        rintro e wc ⟨rfl, hec⟩
        have HXc := Lib.hid (HXb.out.trans hec); have HUc := Lib.hid (HUb.out.ext hec)
        clear hec t0 t1 t2 t3 t4 t5 t6 n0 n1 n2 n3 n4 HTu' HXb HUb HNb
        obtain ⟨t0, t1, t2, t3, t4, t5, t6⟩ := blk7 HUc.out
        go_wp2_with fail
        refine (HCu'.out wc HXc.out).mono ?_
        rintro e wd ⟨rfl, hed⟩
        have HXD := Lib.hid (HXZ.out.trans (HXc.out.trans hed))
        clear hed t0 t1 t2 t3 t4 t5 t6 HCu' HXc HUc
        by_cases h1 : CU = 0
        · subst h1
          by_cases h2 : TE = 0
          · subst h2
            by_cases h3 : UE = 0
            · subst h3
              have h4 : UV = TV := HMV.out rfl rfl
              subst h4
              have h5 : (UV == UV) = true := by simp
              go_wp2_with fail
              refine (awake_any _).mono ?_
              rintro e we ⟨rfl, hee⟩
              go_wp2_with fail
              go_ret
              exact ⟨rfl, HXD.out.trans hee⟩
            · have h3' : (UE != 0) = true := by simp [h3]
              clear HMV h3
              go_wp2_with fail
              refine (awake_any _).mono ?_
              rintro e we ⟨rfl, hee⟩
              go_wp2_with fail
              go_ret
              exact ⟨rfl, HXD.out.trans hee⟩
          · have h2' : (TE != 0) = true := by simp [h2]
            clear HMV h2
            go_wp2_with fail
            refine (awake_any _).mono ?_
            rintro e we ⟨rfl, hee⟩
            go_wp2_with fail
            go_ret
            exact ⟨rfl, HXD.out.trans hee⟩
        · have h1' : (CU != 0) = true := by simp [h1]
          clear HMV h1
          go_wp2_with fail
          refine (awake_any _).mono ?_
          rintro e we ⟨rfl, hee⟩
          go_wp2_with fail
          go_ret
          exact ⟨rfl, HXD.out.trans hee⟩
end Go.Proofs.YtkigmpholnfkbaaGreat
