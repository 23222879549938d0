/- NotchPlaced returns true -/
import Derived.Test.YtliijigdbpmpaaaGreatKRefN
import Derived.Test.YtliijigdbpmpaaaGreatKRPart
import Derived.Test.YtliijigdbpmpaaaGreatKRAlong
import Derived.Test.YtliijigdbpmpaaaGreatKLtP
import Derived.Test.YtliijigdbpmpaaaGreatKSameK
/- the reference: garmentref23.Placed -/
namespace Go.Proofs.YtliijigdbpmpaaaGreat
open Go.RowKit
theorem retPd_bad {w w' : World} {p : Pc} {m x : Int} (h : plE p m = x) (hx : x ≠ 0) (he : Ext w w') : RetPd w p m (.returned (.tuple #[.slice none 0 0, .int .i64 x])) w' :=
  ⟨_, by rw [h], fun h0 => absurd (h.symm.trans h0) hx, fun _ => rfl, he⟩
set_option maxRecDepth 100000 in
set_option maxHeartbeats 3200000 in
theorem rplaced_any (a : PcA) (p : Pc) (m : Int) (w : World) (hp : PcAt w a p) (hb1 : p.es.length ≤ 1000) (hb2 : p.cs.length ≤ 1000) :
    Calls Tryz.prog 8 #[a.val, .int .i64 m] w (RetPd w p m) := by
  have HP := Lib.hid hp; clear hp
  have HG := Lib.hid (fun W (h : Ext w W) => rgraded_any a.nm a.AE a.AN a.AC a.AW a.nE a.cE a.nN a.cN a.nC a.cC a.nW a.cW a.gr m a.mt p.es p.cs W (HP.out.e.ext h) HP.out.le (HP.out.c.ext h) HP.out.lc (by rw [← HP.out.le]; exact hb1) (by rw [← HP.out.lc]; exact hb2))
  clear hb1 hb2
  obtain ⟨nm, AE, nE, cE, gr, AN, nN, cN, AC, nC, cC, AW, nW, cW, mt⟩ := a
  obtain ⟨es, cs, ws, ns⟩ := p
  simp only at HG
  have HLE : Hid (es.length = nE) := HP.out.le
  have HLN : Hid (ns.length = nN) := HP.out.ln
  have HE : Hid (EdgesAt w AE es) := HP.out.e
  have HN : Hid (SpotsAt w AN ns) := HP.out.n
  have HPE : Hid (plE ⟨es, cs, ws, ns⟩ m = if gradedR es cs m ≠ 0 then gradedR es cs m else if 16 < nN then 5 else firstE (ntE ⟨es, cs, ws, ns⟩ m) nN) := by show _ = _; rw [← HLN.out]; rfl
  have HNT : Hid (∀ i, ntE ⟨es, cs, ws, ns⟩ m i = if (gS ns i).1 < 0 ∨ (es.length : Int) ≤ (gS ns i).1 then 3 else partE (lengthN (gE es (gS ns i).1.toNat).2) (lengthN (gE (gradedE es cs m) (gS ns i).1.toNat).2) (gS ns i).2) := fun i => rfl
  have HPV : Hid (∀ i, plV ⟨es, cs, ws, ns⟩ m i = partV (lengthN (gE es (gS ns i).1.toNat).2) (lengthN (gE (gradedE es cs m) (gS ns i).1.toNat).2) false (gS ns i).2) := fun i => rfl
  have HPL : Hid (plL ⟨es, cs, ws, ns⟩ m = plTo ⟨es, cs, ws, ns⟩ m nN) := by show _ = _; rw [← HLN.out]; rfl
  obtain ⟨pc, hpc⟩ : ∃ pc, pc = (⟨es, cs, ws, ns⟩ : Pc) := ⟨_, rfl⟩
  rw [← hpc] at HPE HNT HPV HPL ⊢
  have HPG : Hid (gradedE pc.es pc.cs m = gradedE es cs m) := by show _ = _; rw [hpc]
  clear hpc
  simp only [PcA.val]
  obtain ⟨i0, hi0, hz0, hz1, hz2⟩ := info_parts int_info
  go_enter Tryz.func8, Tryz.ntmps8
  go_wp2_with fail
  refine (HG.out _ ((Ext.refl _).alloc _)).mono ?_
  rintro e w1 ⟨v1, rfl, hv, hv', he1⟩
  have HB1 : Hid (Blk 27 w1 w.heap.size [.string nm, .slice AE nE cE, .int .i64 gr, .slice AN nN cN, .slice AC nC cC, .slice AW nW cW, .bool mt]) := (Blk.new' rfl).ext he1
  have HX1 := Lib.hid (((Ext.refl w).alloc _).trans he1)
  by_cases hz : gradedR es cs m = 0
  rotate_left
  · have hvf := hv' hz
    subst hvf
    have HR : Hid (plE pc m = gradedR es cs m) := by show _ = _; rw [HPE.out, if_pos hz]
    have hzb : (gradedR es cs m != 0) = true := by simp [hz]
    obtain ⟨x, hx⟩ : ∃ x, x = gradedR es cs m := ⟨_, rfl⟩
    rw [← hx] at hz hzb HR ⊢
    have HZ := Lib.hid hz; clear hv hv' hz hx he1
    go_wp2_with fail
    go_ret2
    exact retPd_bad HR.out HZ.out HX1.out
  have hO := hv hz
  have HOE := Lib.hid (show OwnE w1 w.heap.size v1 (gradedE es cs m) from by
    obtain ⟨ps, h1, h2⟩ := hO
    refine ⟨ps, ⟨h1.1, fun k hk => ⟨(h1.2 k hk).1, own_base_le (h1.2 k hk).2 ?_⟩⟩, own_base_le h2 ?_⟩ <;> simp)
  have hGOK := (gradedR_iff es cs m).1 hz
  have HLB := Lib.hid (fun k (h : k < es.length) => ocheck_line hGOK.ok h)
  have HLG := Lib.hid (fun k (h : k < es.length) => graded_lines (cs := cs) (m := m) hz h)
  obtain ⟨A1, c1', hvf, hE1, _, _⟩ := OwnE.slice' (n := nE) hO (by rw [gradedE_len]; exact HLE.out)
  subst hvf
  have HGE := Lib.hid hE1
  rw [hz] at HPE ⊢
  clear hv hv' hz hO hE1 he1 hGOK HG
  simp only [ne_eq, not_true_eq_false, if_false] at HPE
  obtain ⟨c0, c1, c2, c3, c4, c5, c6⟩ := blk7 HB1.out
  by_cases h16 : 16 < nN
  · have HR : Hid (plE pc m = 5) := by show _ = _; rw [HPE.out, if_pos h16]
    go_wp2_with fail
    go_ret2
    exact retPd_bad HR.out (by decide) HX1.out
  rw [if_neg h16] at HPE
  go_wp2_with fail
  clear c0 c1 c2 c3 c4 c5 c6
  go_loopw [8, 9] (fun v i wr => ∃ k : Nat, k ≤ nN ∧ i = .int .i64 k ∧ firstE (ntE pc m) k = 0 ∧ OwnI wr w1.heap.size v (plTo pc m k) ∧ Ext w1 wr) (fun _ i _ => nN - (intOf i).toNat)
  case atStart => exact ⟨0, Nat.zero_le _, rfl, rfl, OwnI.nil _ _, Ext.refl _⟩
  case round =>
    obtain ⟨k, hk, rfl, ht, ho, hx⟩ := hrel
    have HT := Lib.hid ht; clear ht
    have hlk := plTo_len pc m k
    obtain ⟨LK, hLK⟩ : ∃ LK, LK = plTo pc m k := ⟨_, rfl⟩
    rw [← hLK] at ho hlk
    have HLKE := Lib.hid hLK; have HO := Lib.hid ho; have HX := Lib.hid hx; clear hLK ho hx
    have HXw := Lib.hid (HX1.out.trans HX.out)
    by_cases hlt : k < nN
    · obtain ⟨bn, on, hAN, n0, n1⟩ := (HN.out.ext HXw.out).g (k := k) (by rw [HLN.out]; exact hlt)
      subst hAN
      obtain ⟨nt, hnt⟩ : ∃ nt, nt = gS ns k := ⟨_, rfl⟩
      rw [← hnt] at n0 n1
      have hNTk := HNT.out k
      have hPVk := HPV.out k
      rw [← hnt] at hNTk hPVk
      have HNTk := Lib.hid hNTk; have HPVk := Lib.hid hPVk
      clear hnt hNTk hPVk
      obtain ⟨ed, at'⟩ := nt
      simp only at n0 n1 HNTk HPVk
      obtain ⟨c0, c1, c2, c3, c4, c5, c6⟩ := blk7 (HB1.out.ext HX.out)
      have hpl : w.heap.size < wr.heap.size := (HB1.out.ext HX.out).lt
      by_cases e0 : ed < 0
      · have HNE : Hid (ntE pc m k = 3) := by show _ = _; rw [HNTk.out, if_pos (Or.inl e0)]
        have HR : Hid (plE pc m = 3) := by show _ = _; rw [HPE.out, firstE_at hlt HT.out (by rw [HNE.out]; decide), HNE.out]
        go_wp2_with fail
        go_ret2
        exact retPd_bad HR.out (by decide) (HXw.out.alloc _)
      by_cases e1 : (nE : Int) ≤ ed
      · have HNE : Hid (ntE pc m k = 3) := by show _ = _; rw [HNTk.out, if_pos (Or.inr (by rw [HLE.out]; exact e1))]
        have HR : Hid (plE pc m = 3) := by show _ = _; rw [HPE.out, firstE_at hlt HT.out (by rw [HNE.out]; decide), HNE.out]
        go_wp2_with fail
        go_ret2
        exact retPd_bad HR.out (by decide) (HXw.out.alloc _)
      obtain ⟨D, rfl⟩ := Int.eq_ofNat_of_zero_le (show 0 ≤ ed by omega)
      have hD : D < nE := by omega
      have hDl : D < es.length := by rw [HLE.out]; exact hD
      have HNE := HNTk.out
      rw [if_neg (by rw [HLE.out]; omega), Int.toNat_natCast] at HNE
      have HPVd := HPVk.out
      rw [Int.toNat_natCast] at HPVd
      have HNEh := Lib.hid HNE; have HPVh := Lib.hid HPVd
      clear HNE HPVd HNTk HPVk
      have HXL : Hid (Ext wr (wr.alloc (.cells #[.int .i64 (D : Int), .int .i64 at'] 55))) := (Ext.refl _).alloc _
      have HZB := Lib.hid (HLB.out D hDl); have HZG := Lib.hid (HLG.out D hDl)
      obtain ⟨be, oe, L, cL, hAE, l0, l1, hSL, _, _⟩ := (HE.out.ext HXw.out).g (k := D) hDl
      subst hAE
      obtain ⟨lb, hlb⟩ : ∃ lb, lb = (gE es D).2 := ⟨_, rfl⟩
      rw [← hlb] at l1 hSL HZB HNEh HPVh
      clear hlb l0
      have hbe : be < wr.heap.size := cell_lt l1
      obtain ⟨nl, hnl⟩ : ∃ nl, nl = lb.length := ⟨_, rfl⟩
      rw [← hnl] at l1
      have HNL := Lib.hid hnl; have HSL := Lib.hid hSL; clear hnl hSL
      go_wp2_with fail
      refine (rlength_any L nl cL lb _ (HSL.out.ext HXL.out) HNL.out.symm).mono ?_
      rintro e w2 ⟨rfl, he2⟩
      rw [HZB.out]
      have HNB : Hid (Blk 55 w2 wr.heap.size [.int .i64 (D : Int), .int .i64 at']) := (Blk.new' rfl).ext he2
      have HX2 := Lib.hid ((HX.out.trans HXL.out).trans he2)
      have HXr2 := Lib.hid (HXL.out.trans he2)
      clear he2 c0 c1 c2 c3 c4 c5 c6 n0 n1 l1 hpl hbe
      obtain ⟨bg, og, LG, cG, hAG, g0, g1, hSG, _, _⟩ := (HGE.out.ext HX2.out).g (k := D) (by rw [gradedE_len]; exact hDl)
      subst hAG
      obtain ⟨lg, hlg⟩ : ∃ lg, lg = (gE (gradedE es cs m) D).2 := ⟨_, rfl⟩
      rw [← hlg] at g1 hSG HZG HNEh HPVh
      clear hlg g0
      obtain ⟨ng, hng⟩ : ∃ ng, ng = lg.length := ⟨_, rfl⟩
      rw [← hng] at g1
      have HNG := Lib.hid hng; have HSG := Lib.hid hSG; clear hng hSG
      obtain ⟨b0, b1⟩ := blk2 HNB.out
      go_wp2_with fail
      refine (rlength_any LG ng cG lg _ HSG.out HNG.out.symm).mono ?_
      rintro e w3 ⟨rfl, he3⟩
      rw [HZG.out]
      have HX3 := Lib.hid (HX2.out.trans he3)
      have HXr3 := Lib.hid (HXr2.out.trans he3)
      have HNB3 := Lib.hid (HNB.out.ext he3)
      clear he3 g1 b0 b1
      obtain ⟨b0, b1⟩ := blk2 HNB3.out
      go_wp2_with fail
      refine (rpartner_any (lengthN lb : Int) (lengthN lg : Int) at' false _).mono ?_
      rintro e w4 ⟨rfl, he4⟩
      rw [← HNEh.out, ← HPVh.out]
      have HX4 := Lib.hid (HX3.out.trans he4)
      have HXr4 := Lib.hid (HXr3.out.trans he4)
      clear he4 b0 b1
      obtain ⟨PV, hPV⟩ : ∃ PV, PV = plV pc m k := ⟨_, rfl⟩
      obtain ⟨NE, hNE⟩ : ∃ NE, NE = ntE pc m k := ⟨_, rfl⟩
      rw [← hPV, ← hNE]
      have HPVe := Lib.hid hPV; have HNEe := Lib.hid hNE
      clear hPV hNE HNEh HPVh
      by_cases hz : NE = 0
      rotate_left
      · have HR : Hid (plE pc m = NE) := by show _ = _; rw [HPE.out, firstE_at hlt HT.out (by rw [← HNEe.out]; exact hz), HNEe.out]
        have hzb : (NE != 0) = true := by simp [hz]
        have HZ := Lib.hid hz; clear hz
        go_wp2_with fail
        go_ret2
        exact retPd_bad HR.out HZ.out (HX1.out.trans HX4.out)
      subst hz
      have HT' := Lib.hid (firstE_succ (f := ntE pc m) HT.out HNEe.out.symm)
      have hbb : w1.heap.size ≤ w4.heap.size := HX4.out.size
      have H63 : Hid (LK.length + 1 ≤ maxLen) := by show _ ≤ _; unfold maxLen; omega
      have H64 : Hid ((LK.length + 1) * 8 ≤ 140737488355328) := by show _ ≤ _; omega
      have HC6 : Hid (w1.heap.size ≤ (w4.alloc (.cells #[.int .i64 PV] 3)).heap.size) := by show _ ≤ _; simp; omega
      go_wp2_with (at_builtin; refine wpList_append_own _ rfl (.tmp 85) (.tmp 87) 25 rfl w1.heap.size 3 i0 (.int .i64 0) 1 8 Tryz.underlying25 hi0 hz0 hz1 hz2 rfl (by decide) _ _ _ rfl (World.ownsRow.alloc (own_ext HO.out HXr4.out) _) ⟨w4.heap.size, 0, none⟩ 1 1 [.int .i64 PV] rfl rfl (World.news_of_block (cs := #[.int .i64 PV]) (t := 3) (fr := (0, 0)) (heap_alloc_new w4 _)) (by simp [Value.oneCell']) H63.out H64.out HC6.out ?_)
      intro v' w5 hown' hgrow _
      have hO' : OwnI w5 w1.heap.size v' (plTo pc m (k + 1)) := by
        rw [plTo_succ, ← HLKE.out, ← HPVe.out]
        unfold OwnI icells
        rw [List.length_append, List.map_append, hlk]
        exact hown'
      have hx' : Ext w1 w5 := (HX4.out.alloc _).grown hgrow (fun g hg => (World.ownsRow.lt HO.out g hg).1)
      have HO' := Lib.hid hO'; clear hO' hown' hgrow
      go_wp2_with fail
      go_roundw
      case rel => exact ⟨k + 1, by omega, by go_num, HT'.out, HO'.out, hx'⟩
      case measure => simp [intOf]; omega
    · obtain rfl : k = nN := by omega
      obtain ⟨c0, c1, c2, c3, c4, c5, c6⟩ := blk7 (HB1.out.ext HX.out)
      go_wp2_with fail
      go_ret2
      have hE0 : plE pc m = 0 := by rw [HPE.out]; exact HT.out
      refine ⟨_, by rw [hE0]; rfl, fun _ => ?_, fun h => absurd hE0 h, HXw.out⟩
      rw [HPL.out, ← HLKE.out]
      exact own_base_le HO.out HX1.out.size
end Go.Proofs.YtliijigdbpmpaaaGreat
/- the reference: garmentref10.Along -/
namespace Go.Proofs.YtliijigdbpmpaaaGreat
open Go.RowKit
set_option maxRecDepth 100000 in
set_option maxHeartbeats 1600000 in
theorem ralong_any (A : Option Addr) (n c : Nat) (l : List Spot) (s : Int) (w : World) (ha : SpotsAt w A l) (hl : l.length = n) :
    Calls Tryz.prog 24 #[.slice A n c, .int .i64 s] w fun e w' => e = .returned (.tuple #[SV (alongV l s), .int .i64 (alongE l s)]) ∧ Ext w w' := by
  have HL := Lib.hid hl; have HA := Lib.hid ha; clear hl ha
  go_enter Tryz.func24, Tryz.ntmps24
  go_wp2_with fail
  refine (rcheck_any A n c l _ (HA.out.ext ((Ext.refl _).alloc _)) HL.out).mono ?_
  rintro e w1 ⟨rfl, he1⟩
  have HB1 : Hid (Blk 57 w1 w.heap.size [.int .i64 0, .int .i64 0]) := (Blk.new' rfl).ext he1
  have HX1 := Lib.hid (((Ext.refl w).alloc _).trans he1)
  clear he1
  obtain ⟨r0, r1⟩ := blk2 HB1.out
  have f0 := HB1.out.frozen 0
  have f1 := HB1.out.frozen 1
  by_cases hz : lcheck l = 0
  rotate_left
  · have hzb : (lcheck l != 0) = true := by simp [hz]
    have HE : Hid (alongE l s = lcheck l) := by show _ = _; unfold alongE; rw [if_pos hz]
    have HV : Hid (alongV l s = (0, 0)) := by show _ = _; unfold alongV; rw [HE.out, if_pos hz]
    obtain ⟨E, hE⟩ : ∃ E, E = lcheck l := ⟨_, rfl⟩
    rw [← hE] at hzb HE ⊢
    clear hz hE
    go_wp2_with fail
    refine bodyPost_ret (v := .tuple #[SV (0, 0), .int .i64 E]) (by simp [results, Tryz.results24, go_sem, r0, r1]) rfl ⟨by rw [HV.out, HE.out], ?_⟩
    first
      | exact (HX1.out.setCell (Nat.le_refl _) _).setCell (Nat.le_refl _) _
      | exact HX1.out
  obtain ⟨hl2, hl40, hin⟩ := lcheck_zero hz
  have HIN := Lib.hid hin
  have hn1 : 1 ≤ n := by rw [← HL.out]; omega
  have hn40 : n ≤ 40 := by rw [← HL.out]; exact hl40
  have HTT : Hid ((lengthN l : Int) = (lenTo l (n - 1) : Int)) := by show _ = _; unfold lengthN; rw [if_neg (fun h => h hz), HL.out]
  have HZ := Lib.hid hz
  rw [hz]
  clear hz hin hl2 hl40
  by_cases h0 : s < 0
  · have HE : Hid (alongE l s = 3) := by show _ = _; unfold alongE; rw [if_neg (fun h => h HZ.out), if_pos (Or.inl h0)]
    have HV : Hid (alongV l s = (0, 0)) := by show _ = _; unfold alongV; rw [HE.out, if_pos (by decide)]
    go_wp2_with fail
    refine bodyPost_ret (v := .tuple #[SV (0, 0), .int .i64 3]) (by simp [results, Tryz.results24, go_sem, r0, r1]) rfl ⟨by rw [HV.out, HE.out], ?_⟩
    first
      | exact (HX1.out.setCell (Nat.le_refl _) _).setCell (Nat.le_refl _) _
      | exact HX1.out
  go_wp2_with fail
  refine (rtotal_any A n c l _ (HA.out.ext HX1.out) HL.out hn1 hn40 HIN.out).mono ?_
  rintro e w2 ⟨rfl, he2⟩
  have HX2 := Lib.hid (HX1.out.trans he2)
  have HB2 := Lib.hid (HB1.out.ext he2)
  clear r0 r1 f0 f1 he2
  obtain ⟨r0, r1⟩ := blk2 HB2.out
  have f0 := HB2.out.frozen 0
  have f1 := HB2.out.frozen 1
  obtain ⟨TT, hTT⟩ : ∃ T, T = lenTo l (n - 1) := ⟨_, rfl⟩
  rw [← hTT] at HTT ⊢
  clear hTT
  by_cases h1 : (TT : Int) < s
  · have HE : Hid (alongE l s = 3) := by show _ = _; unfold alongE; rw [if_neg (fun h => h HZ.out), if_pos (Or.inr (by rw [HTT.out]; exact h1))]
    have HV : Hid (alongV l s = (0, 0)) := by show _ = _; unfold alongV; rw [HE.out, if_pos (by decide)]
    go_wp2_with fail
    refine bodyPost_ret (v := .tuple #[SV (0, 0), .int .i64 3]) (by simp [results, Tryz.results24, go_sem, r0, r1]) rfl ⟨by rw [HV.out, HE.out], ?_⟩
    first
      | exact (HX2.out.setCell (Nat.le_refl _) _).setCell (Nat.le_refl _) _
      | exact HX2.out
  have HE : Hid (alongE l s = 0) := by show _ = _; unfold alongE; rw [if_neg (fun h => h HZ.out), if_neg (by rw [HTT.out]; omega)]
  have HV : Hid (alongV l s = alongS l s) := by show _ = _; unfold alongV; rw [HE.out, if_neg (by decide)]
  have HSL : Hid (s ≤ (lengthN l : Int)) := by show _ ≤ _; rw [HTT.out]; omega
  go_wp2_with fail
  refine (rlocate_any A n c l s _ (HA.out.ext HX2.out) HL.out HZ.out (by omega) HSL.out).mono ?_
  rintro e w3 ⟨rfl, he3⟩
  have HX3 := Lib.hid (HX2.out.trans he3)
  have HB3 := Lib.hid (HB2.out.ext he3)
  clear r0 r1 f0 f1 he3
  obtain ⟨r0, r1⟩ := blk2 HB3.out
  have f0 := HB3.out.frozen 0
  have f1 := HB3.out.frozen 1
  have hbl : w.heap.size < w3.heap.size := HB3.out.lt
  obtain ⟨P, hP⟩ : ∃ P, P = alongS l s := ⟨_, rfl⟩
  rw [← hP] at HV ⊢
  clear hP
  obtain ⟨p0, p1⟩ := P
  go_wp2_with fail
  refine bodyPost_ret (v := .tuple #[SV (p0, p1), .int .i64 0]) (by simp [results, Tryz.results24, go_sem, r0, r1, hbl]) rfl ⟨by rw [HV.out, HE.out], ?_⟩
  first
    | exact ((HX3.out.alloc _).setCell (Nat.le_refl _) _).setCell (Nat.le_refl _) _
    | exact ((HX3.out.setCell (Nat.le_refl _) _).setCell (Nat.le_refl _) _).alloc _
end Go.Proofs.YtliijigdbpmpaaaGreat
/- the reference: garmentref23.Spots -/
namespace Go.Proofs.YtliijigdbpmpaaaGreat
open Go.RowKit
set_option maxRecDepth 100000 in
set_option maxHeartbeats 3200000 in
theorem rspots_any (a : PcA) (p : Pc) (m : Int) (w : World) (hp : PcAt w a p) (hb1 : p.es.length ≤ 1000) (hb2 : p.cs.length ≤ 1000) :
    Calls Tryz.prog 10 #[a.val, .int .i64 m] w (RetSp w p m) := by
  have HC := Lib.hid (fun W (h : Ext w W) => rplaced_any a p m W (hp.ext h) hb1 hb2)
  have HP := Lib.hid hp; clear hp
  have HG := Lib.hid (fun W (h : Ext w W) => rgraded_any a.nm a.AE a.AN a.AC a.AW a.nE a.cE a.nN a.cN a.nC a.cC a.nW a.cW a.gr m a.mt p.es p.cs W (HP.out.e.ext h) HP.out.le (HP.out.c.ext h) HP.out.lc (by rw [← HP.out.le]; exact hb1) (by rw [← HP.out.lc]; exact hb2))
  clear hb1 hb2
  obtain ⟨nm, AE, nE, cE, gr, AN, nN, cN, AC, nC, cC, AW, nW, cW, mt⟩ := a
  have HLN : Hid (p.ns.length = nN) := HP.out.ln
  have HLE : Hid (p.es.length = nE) := HP.out.le
  have HN : Hid (SpotsAt w AN p.ns) := HP.out.n
  simp only [PcA.val] at HC HG ⊢
  obtain ⟨i0, hi0, hz0, hz1, hz2⟩ := info_parts spot_info
  go_enter Tryz.func10, Tryz.ntmps10
  go_wp2_with fail
  refine (HC.out _ ((Ext.refl _).alloc _)).mono ?_
  rintro e w0 ⟨v, rfl, h1, h2, he0⟩
  have HB0 : Hid (Blk 27 w0 w.heap.size [.string nm, .slice AE nE cE, .int .i64 gr, .slice AN nN cN, .slice AC nC cC, .slice AW nW cW, .bool mt]) := (Blk.new' rfl).ext he0
  have HX0 := Lib.hid (((Ext.refl w).alloc _).trans he0)
  by_cases hz : plE p m = 0
  rotate_left
  · have hv := h2 hz
    subst hv
    have hzb : (plE p m != 0) = true := by simp [hz]
    obtain ⟨E, hE⟩ : ∃ E, E = plE p m := ⟨_, rfl⟩
    rw [← hE] at hzb hz ⊢
    have HE := Lib.hid hE; have HZ := Lib.hid hz; clear hE h1 h2 hz he0
    go_wp2_with fail
    go_ret2
    exact ⟨_, by rw [← HE.out]; rfl, fun h => absurd (HE.out.trans h) HZ.out, fun _ => rfl, HX0.out⟩
  have hOI := h1 hz
  have HOK := Lib.hid (plE_zero.1 hz)
  obtain ⟨A1, c1', hvf, hI1, _⟩ := OwnI.slice' (n := nN) hOI (by rw [plL_len]; exact HLN.out)
  subst hvf
  have HI0 := Lib.hid hI1; have HPZ := Lib.hid hz
  rw [hz]
  clear h1 h2 hz hOI hI1 he0
  have h16 : nN ≤ 16 := by rw [← HLN.out]; exact HOK.out.n
  obtain ⟨c0, c1, c2, c3, c4, c5, c6⟩ := blk7 HB0.out
  go_wp2_with fail
  refine (HG.out _ HX0.out).mono ?_
  rintro e w1 ⟨v, rfl, hv, _, he1⟩
  rw [HOK.out.g]
  obtain ⟨A2, c2', hvf, hE2, _, _⟩ := OwnE.slice' (n := nE) (hv HOK.out.g) (by rw [gradedE_len]; exact HLE.out)
  subst hvf
  have HE2 := Lib.hid hE2; have HI1 := Lib.hid (HI0.out.ext he1)
  have HX1 := Lib.hid (HX0.out.trans he1); have HB1 := Lib.hid (HB0.out.ext he1)
  clear c0 c1 c2 c3 c4 c5 c6 he1 hv hE2 HI0 HB0
  go_wp2_with fail
  go_loopw [10, 11] (fun v i wr => ∃ k : Nat, k ≤ nN ∧ i = .int .i64 k ∧ OwnT 57 wr w1.heap.size v (spTo p m k) ∧ Ext w1 wr) (fun _ i _ => nN - (intOf i).toNat)
  case atStart => exact ⟨0, Nat.zero_le _, rfl, World.ownsRow_nil _ _ _ _, Ext.refl _⟩
  case round =>
    obtain ⟨k, hk, rfl, ho, hx⟩ := hrel
    have hlk := spTo_len p m k
    obtain ⟨LK, hLK⟩ : ∃ LK, LK = spTo p m k := ⟨_, rfl⟩
    rw [← hLK] at ho hlk
    have HLKL := Lib.hid hlk
    have HLKE := Lib.hid hLK; have HO := Lib.hid ho; have HX := Lib.hid hx; clear hLK ho hx hlk
    obtain ⟨wq, rfl⟩ : ∃ wq : World, wq = wr := ⟨_, rfl⟩
    have HXw := Lib.hid (HX1.out.trans HX.out)
    by_cases hlt : k < nN
    · have hkl : k < p.ns.length := by rw [HLN.out]; exact hlt
      have HNK := Lib.hid (HOK.out.i k hkl)
      have HSPK := Lib.hid (sp_ok HOK.out hkl)
      have HPB := Lib.hid (plV_bd HNK.out)
      obtain ⟨bn, on, hAN, n0, _⟩ := (HN.out.ext HXw.out).g (k := k) hkl
      subst hAN
      obtain ⟨D, hD⟩ := Int.eq_ofNat_of_zero_le HNK.out.e0
      have hDl : D < p.es.length := by have := HNK.out.e1; omega
      have hDn : D < nE := by rw [← HLE.out]; exact hDl
      rw [hD] at n0
      have HDT : Hid ((gS p.ns k).1.toNat = D) := by show _ = _; rw [hD]; simp
      have b3 := (HB1.out.ext HX.out).cell 3
      simp only [List.getElem?_cons_succ, List.getElem?_cons_zero] at b3
      obtain ⟨bg, og, LG, cG, hAG, g0, g1, hSG, _, _⟩ := (HE2.out.ext HX.out).g (k := D) (by rw [gradedE_len]; exact hDl)
      subst hAG
      obtain ⟨bp, op, hAP, p0⟩ := (HI1.out.ext HX.out).g (k := k) (by rw [plL_len]; exact hkl)
      subst hAP
      rw [plL_get hkl] at p0
      have HSPe : Hid (spS p m k = alongS (gE (gradedE p.es p.cs m) D).2 (plV p m k)) := by show _ = _; unfold spS; rw [HDT.out]
      have hAE0 := HSPK.out.1
      rw [HDT.out] at hAE0
      obtain ⟨lg, hlg⟩ : ∃ lg, lg = (gE (gradedE p.es p.cs m) D).2 := ⟨_, rfl⟩
      rw [← hlg] at g1 hSG HSPe hAE0
      clear hlg g0 hD
      obtain ⟨ng, hng⟩ : ∃ ng, ng = lg.length := ⟨_, rfl⟩
      rw [← hng] at g1
      obtain ⟨PV, hPV⟩ : ∃ PV, PV = plV p m k := ⟨_, rfl⟩
      rw [← hPV] at p0 HSPe hAE0
      clear hPV
      obtain ⟨SP, hSP⟩ : ∃ SP, SP = spS p m k := ⟨_, rfl⟩
      rw [← hSP] at HSPe
      have HSPd := Lib.hid hSP; clear hSP
      have HAP : Hid (∀ W : World, Ext wq W → Calls Tryz.prog 24 #[.slice LG ng cG, .int .i64 PV] W fun e w' => e = .returned (.tuple #[SV SP, .int .i64 0]) ∧ Ext W w') := fun W h => by
        have := ralong_any LG ng cG lg PV W (hSG.ext h) hng.symm
        rw [hAE0] at this
        have e : alongV lg PV = SP := by unfold alongV; rw [hAE0, if_neg (by decide)]; exact HSPe.out.symm
        rwa [e] at this
      clear hSG hng hAE0
      have hkk : (k : Int) < nN := by omega
      have hkk0 : (0 : Int) ≤ k := by omega
      have hDD : (D : Int) < nE := by omega
      have hDD0 : (0 : Int) ≤ D := by omega
      go_upto_region 9 with fail
      go_cut [12, 13] from 35 to 52 (fun pt ev wc => ∃ pb, pt = .pointer (some ⟨pb, 0, none⟩) ∧ ev = .int .i64 0 ∧ Blk 57 wc pb [.int .i64 SP.1, .int .i64 SP.2] ∧ Ext wq wc)
      case first =>
        have keep : ∀ W2 : World, Ext wq W2 → (Ext wq W2 ∧ W2.cell? ⟨w.heap.size, 3, none⟩ = some (.slice (some ⟨bn, on, none⟩) nN cN) ∧ W2.cell? ⟨bn, on + k * 2, none⟩ = some (.int .i64 (D : Int)) ∧ W2.cell? ⟨bg, og + D * 2 + 1, none⟩ = some (.slice LG ng cG) ∧ W2.cell? ⟨bp, op + k, none⟩ = some (.int .i64 PV)) := fun W2 hx => ⟨hx, hx.cell b3, hx.cell n0, hx.cell g1, hx.cell p0⟩
        have KEEP := Lib.hid keep; clear keep b3 n0 g1 p0
        go_region_held3 (fun W => Ext wq W ∧ W.cell? ⟨w.heap.size, 3, none⟩ = some (.slice (some ⟨bn, on, none⟩) nN cN) ∧ W.cell? ⟨bn, on + k * 2, none⟩ = some (.int .i64 (D : Int)) ∧ W.cell? ⟨bg, og + D * 2 + 1, none⟩ = some (.slice LG ng cG) ∧ W.cell? ⟨bp, op + k, none⟩ = some (.int .i64 PV))
          (first | (with_reducible exact KEEP.out _ (Ext.setCell (Ext.setCell hx2 (p := ⟨wq.heap.size, 0, none⟩) (Nat.le_refl _) _) (p := ⟨wq.heap.size, 1, none⟩) (Nat.le_refl _) _)) | (with_reducible assumption) | (with_reducible exact KEEP.out _ (Ext.drew (Ext.refl _))) | (with_reducible exact KEEP.out _ (Ext.drew (Ext.alloc (Ext.refl _) _))) | (with_reducible exact KEEP.out _ hx2) | (with_reducible exact KEEP.out _ (Ext.alloc hx2 _)) | fail)
          (first
            | (go_at_call 24; (with_reducible refine (HAP.out wq.drew (Ext.drew (Ext.refl _))).mono ?_); rintro e w2 ⟨rfl, he2⟩; have hx2 : Ext wq w2 := (Ext.drew (Ext.refl _)).trans he2)
            | (go_at_call 24; (with_reducible refine (HAP.out (wq.alloc (.cells #[.int .i64 0, .int .i64 0] 57)).drew (Ext.drew (Ext.alloc (Ext.refl _) _))).mono ?_); rintro e w2 ⟨rfl, he2⟩; have hx2 : Ext wq w2 := (Ext.drew (Ext.alloc (Ext.refl _) _)).trans he2; have hB1 : Blk 57 w2 wq.heap.size [.int .i64 0, .int .i64 0] := Blk.ext (Blk.ext (Blk.new' rfl) (Ext.drew (Ext.refl _))) he2; obtain ⟨s0, s1⟩ := blk2 hB1; have e0 := hB1.frozen 0; have e1 := hB1.frozen 1; have HB1' := Lib.hid hB1; clear hB1)
            | fail)
        all_goals
          go_wp2_with fail
          go_meet
        all_goals first
          | exact ⟨w2.heap.size, rfl, rfl, Blk.new' rfl, hx2.alloc _⟩
          | exact ⟨wq.heap.size, rfl, rfl, (HB1'.out.set 0 (.int .i64 SP.1)).set 1 (.int .i64 SP.2), (hx2.setCell (Nat.le_refl _) _).setCell (Nat.le_refl _) _⟩
          | fail
      case rest =>
        obtain ⟨pb, hpb, hev, hBp, hxc⟩ := hcut
        subst hpb; subst hev
        clear b3 n0 g1 p0
        obtain ⟨wz, rfl⟩ : ∃ wz : World, wz = wc := ⟨_, rfl⟩
        have HXz := Lib.hid (HX.out.trans hxc)
        have HOz := Lib.hid (own_ext HO.out hxc)
        obtain ⟨q0, q1⟩ := blk2 hBp
        have hbb : w1.heap.size ≤ wz.heap.size := HXz.out.size
        clear hBp hxc
        obtain ⟨Y1, Y2⟩ := SP
        simp only at q0 q1
        have hlk := HLKL.out
        have H63 : Hid (LK.length + 1 ≤ maxLen) := by show _ ≤ _; unfold maxLen; omega
        have H64 : Hid ((LK.length + 1) * 16 ≤ 140737488355328) := by show _ ≤ _; omega
        have HC6 : Hid (w1.heap.size ≤ (wz.alloc (.cells #[.int .i64 Y1, .int .i64 Y2] 57)).heap.size) := by show _ ≤ _; simp; omega
        clear hlk
        go_wp2_with (at_builtin; refine wpList_append_own _ rfl (.tmp 53) (.tmp 55) 24 rfl w1.heap.size 57 i0 (.agg #[.int .i64 0, .int .i64 0]) 2 16 Tryz.underlying24 hi0 hz0 hz1 hz2 rfl (by decide) _ LK.length (scells LK) rfl (World.ownsRow.alloc HOz.out _) ⟨wz.heap.size, 0, none⟩ 1 1 [.int .i64 Y1, .int .i64 Y2] rfl rfl (World.news_of_block (cs := #[.int .i64 Y1, .int .i64 Y2]) (t := 57) (fr := (0, 0)) (heap_alloc_new wz _)) (by simp [Value.oneCell']) H63.out H64.out HC6.out ?_)
        intro v' w4 hown' hgrow _
        have hO' : OwnT 57 w4 w1.heap.size v' (spTo p m (k + 1)) := by
          rw [spTo_succ, ← HLKE.out, ← HSPd.out]
          unfold OwnT
          rw [List.length_append, scells_append]
          exact hown'
        have hx' : Ext w1 w4 := (HXz.out.alloc _).grown hgrow (fun g hg => (World.ownsRow.lt HO.out g hg).1)
        have HO' := Lib.hid hO'; clear hO' hown' hgrow
        go_wp2_with fail
        go_roundw
        case rel => exact ⟨k + 1, by omega, by go_num, HO'.out, hx'⟩
        case measure => simp [intOf]; omega
    · obtain rfl : k = nN := by omega
      go_wp2_with fail
      go_ret2
      refine ⟨_, by rw [HPZ.out]; rfl, fun _ => ?_, fun h => absurd HPZ.out h, HXw.out⟩
      unfold spL
      rw [HLN.out, ← HLKE.out]
      exact own_base_le HO.out HX1.out.size
end Go.Proofs.YtliijigdbpmpaaaGreat
/- garmentref23.Light -/
namespace Go.Proofs.YtliijigdbpmpaaaGreat
open Go.RowKit
def RetL3 (w : World) (p : Pc) (e : Ending) (w' : World) : Prop := ∃ b, e = .returned (.bool b) ∧ Ext w w' ∧ (b = true → LtP p 60)
set_option maxRecDepth 100000 in
set_option maxHeartbeats 1600000 in
theorem light3_any (a : PcA) (p : Pc) (w : World) (hp : PcAt w a p) :
    Calls Tryz.prog 5 #[a.val] w (RetL3 w p) := by
  have HL := Lib.hid (fun W (h : Ext w W) => lightP_any a p 60 (by omega) W (hp.ext h))
  clear hp
  obtain ⟨nm, AE, nE, cE, gr, AN, nN, cN, AC, nC, cC, AW, nW, cW, mt⟩ := a
  simp only [PcA.val] at HL ⊢
  go_enter Tryz.func5, Tryz.ntmps5
  go_wp2_with fail
  refine (HL.out _ ((Ext.refl _).alloc _)).mono ?_
  rintro e w1 ⟨b, rfl, he, hb⟩
  have HX := Lib.hid (((Ext.refl w).alloc _).trans he); have HB := Lib.hid hb
  clear he hb
  go_wp2_with fail
  go_ret
  exact ⟨b, rfl, HX.out, HB.out⟩
end Go.Proofs.YtliijigdbpmpaaaGreat
/- garmentlaw23.awake -/
namespace Go.Proofs.YtliijigdbpmpaaaGreat
open Go.RowKit
theorem wd_sty {W : World} {bM bP bK b : Nat} {ms : List Int} {rev : Bool} (hM : Blk 3 W bM (icells ms)) (hB : WdB W b 2000) (hP : Blk 27 W bP (wdA b).cells) (hK : Blk 53 W bK [.int .i64 0, .int .i64 0, .int .i64 0, .int .i64 0, .bool rev, .int .i64 0]) (hl : ms.length ≤ 2) :
    StyAt W ⟨⟨#[]⟩, none, 0, 0, some ⟨bM, 0, none⟩, ms.length, ms.length, some ⟨bP, 0, none⟩, 1, 1, none, 0, 0, some ⟨bK, 0, none⟩, 1, 1, none, 0, 0⟩ ⟨ms, [wdP], [⟨0, 0, 0, 0, rev, 0⟩]⟩ := by
  refine ⟨(OwnI.plain (own_of_int (base := 0) (L := ms) hM (Nat.zero_le _) (by omega))).2.1, fun k hk' => ?_, fun k hk' => ?_, rfl, rfl, rfl, by simp only; omega, by simp only; omega, by simp only; omega⟩
  · match k, hk' with
    | 0, _ => exact ⟨bP, 0, wdA b, rfl, hB.at, hP.cell 0, hP.cell 1, hP.cell 2, hP.cell 3, hP.cell 4, hP.cell 5, hP.cell 6⟩
  · match k, hk' with
    | 0, _ => exact ⟨bK, 0, rfl, hK.cell 0, hK.cell 1, hK.cell 2, hK.cell 3, hK.cell 4, hK.cell 5⟩
set_option maxRecDepth 100000 in
set_option maxHeartbeats 3200000 in
theorem awake_any (w : World) : Calls Tryz.prog 6 #[] w fun e w' => e = .returned (.bool true) ∧ Ext w w' := by
  go_enter Tryz.func6, Tryz.ntmps6
  go_wp2_with fail
  refine (wedge_any _).mono ?_
  rintro e w1 ⟨rfl, hB, he1⟩
  have hp := hB.at
  generalize wdA (w.heap.size + 1) = a1 at hp ⊢
  clear hB
  go_wp2_with fail
  refine (placedS_any a1 wdP 0 _ hp).mono ?_
  rintro e w2 ⟨A1, n1, c1, rfl, ho, he2⟩
  obtain ⟨ho, hn⟩ := ho wd_e0
  obtain rfl : n1 = 2 := hn
  rw [wd_e0]
  rw [wd_l0] at ho
  have HO1 := Lib.hid ho
  have HX2 := Lib.hid (he1.trans he2)
  clear ho hp he1 he2
  go_wp2_with fail
  refine (wedge_any _).mono ?_
  rintro e w3 ⟨rfl, hB, he1⟩
  have hp := hB.at
  generalize wdA (w2.heap.size + 1) = a2 at hp ⊢
  clear hB
  go_wp2_with fail
  refine (placedS_any a2 wdP 1 _ hp).mono ?_
  rintro e w4 ⟨A2, n2, c2, rfl, ho, he2⟩
  obtain ⟨ho, hn⟩ := ho wd_e1
  obtain rfl : n2 = 2 := hn
  rw [wd_e1]
  rw [wd_l1] at ho
  have HO2 := Lib.hid ho
  have HX4 := Lib.hid (he1.trans he2)
  clear ho hp he1 he2
  go_wp2_with fail
  refine (wedge_any _).mono ?_
  rintro e w5 ⟨rfl, hB, he1⟩
  have hp := hB.at
  generalize wdA (w4.heap.size + 1) = a3 at hp ⊢
  clear hB
  go_wp2_with fail
  refine (spots_any a3 wdP 1 _ hp).mono ?_
  rintro e w6 ⟨v3, rfl, ho, _, he2⟩
  have ho := ho wd_e1
  rw [wd_e1]
  rw [wd_s1] at ho
  obtain ⟨A3, c3, hv, hS, _⟩ := OwnT.slice' (n := 2) ho rfl
  subst hv
  have HS3 := Lib.hid hS
  have HX6 := Lib.hid (he1.trans he2)
  clear ho hp he1 he2 hS
  go_wp2_with fail
  refine (wedge_any _).mono ?_
  rintro e w7 ⟨rfl, hB, he1⟩
  generalize (World.alloc w6 (.cells #[.int .i64 0, .int .i64 1] 3)).heap.size + 1 = b7 at hB ⊢
  have HBw7 := Lib.hid hB
  have HMw7 : Hid (Blk 3 w7 w6.heap.size (icells [0, 1])) := (Blk.new' rfl).ext he1
  have HXw7 : Hid (Ext w6 w7) := ((Ext.refl _).alloc _).trans he1
  clear hB he1
  simp only [wdA, PcA.val]
  go_upto_region 5 with fail
  refine wp_at fun w8 hw8 => ?_
  have HXw8 : Hid (Ext w7 w8) := by show Ext _ _; rw [hw8]; exact (((Ext.refl _).alloc _).alloc _).alloc _
  have HPw8 : Hid (Blk 27 w8 w7.heap.size (wdA b7).cells) := by show Blk _ _ _ _; rw [hw8]; exact ((Blk.new' rfl).ext (ext1 _ _)).ext (ext1 _ _)
  have HKw8 : Hid (Blk 53 w8 (w7.heap.size + 1) [.int .i64 0, .int .i64 0, .int .i64 0, .int .i64 0, .bool false, .int .i64 0]) := by show Blk _ _ _ _; rw [hw8]; exact (Blk.new' (by simp)).ext (ext1 _ _)
  have HTw8 : Hid (Blk 44 w8 (w7.heap.size + 1 + 1) [.string ⟨#[]⟩, .slice none 0 0, .slice (some ⟨w6.heap.size, 0, none⟩) 2 2, .slice (some ⟨w7.heap.size, 0, none⟩) 1 1, .slice none 0 0, .slice (some ⟨w7.heap.size + 1, 0, none⟩) 1 1, .slice none 0 0]) := by show Blk _ _ _ _; rw [hw8]; exact Blk.new' (by simp)
  have HYw8 := Lib.hid (wd_sty (HMw7.out.ext HXw8.out) (HBw7.out.ext HXw8.out) HPw8.out HKw8.out (by decide))
  clear hw8 HPw8 HKw8 HMw7 HBw7
  obtain ⟨t0, t1, t2, t3, t4, t5, t6⟩ := blk7 HTw8.out
  go_wp2_with fail
  refine (unmatched_any _ wdS 1 _ HYw8.out (Nat.le_of_ble_eq_true rfl)).mono ?_
  rintro e w9 ⟨v4, rfl, ho, _, he2⟩
  have ho := ho wd_se
  rw [wd_se]
  rw [wd_sl] at ho
  obtain ⟨A4, c4, hv, _⟩ := OwnK.slice' (n := 0) ho rfl
  subst hv
  have HX9 := Lib.hid ((HXw7.out.trans HXw8.out).trans he2)
  clear ho he2 t0 t1 t2 t3 t4 t5 t6 HYw8 HTw8 HXw7 HXw8
  go_wp2_with fail
  refine (wedge_any _).mono ?_
  rintro e w10 ⟨rfl, hB, he1⟩
  generalize (World.alloc w9 (.cells #[.int .i64 0] 3)).heap.size + 1 = b10 at hB ⊢
  have HBw10 := Lib.hid hB
  have HMw10 : Hid (Blk 3 w10 w9.heap.size (icells [0])) := (Blk.new' rfl).ext he1
  have HXw10 : Hid (Ext w9 w10) := ((Ext.refl _).alloc _).trans he1
  clear hB he1
  simp only [wdA, PcA.val]
  go_upto_region 7 with fail
  refine wp_at fun w11 hw11 => ?_
  have HXw11 : Hid (Ext w10 w11) := by show Ext _ _; rw [hw11]; exact (((Ext.refl _).alloc _).alloc _).alloc _
  have HPw11 : Hid (Blk 27 w11 w10.heap.size (wdA b10).cells) := by show Blk _ _ _ _; rw [hw11]; exact ((Blk.new' rfl).ext (ext1 _ _)).ext (ext1 _ _)
  have HKw11 : Hid (Blk 53 w11 (w10.heap.size + 1) [.int .i64 0, .int .i64 0, .int .i64 0, .int .i64 0, .bool true, .int .i64 0]) := by show Blk _ _ _ _; rw [hw11]; exact (Blk.new' (by simp)).ext (ext1 _ _)
  have HTw11 : Hid (Blk 44 w11 (w10.heap.size + 1 + 1) [.string ⟨#[]⟩, .slice none 0 0, .slice (some ⟨w9.heap.size, 0, none⟩) 1 1, .slice (some ⟨w10.heap.size, 0, none⟩) 1 1, .slice none 0 0, .slice (some ⟨w10.heap.size + 1, 0, none⟩) 1 1, .slice none 0 0]) := by show Blk _ _ _ _; rw [hw11]; exact Blk.new' (by simp)
  have HYw11 := Lib.hid (wd_sty (HMw10.out.ext HXw11.out) (HBw10.out.ext HXw11.out) HPw11.out HKw11.out (by decide))
  clear hw11 HPw11 HKw11 HMw10 HBw10
  obtain ⟨t0, t1, t2, t3, t4, t5, t6⟩ := blk7 HTw11.out
  go_wp2_with fail
  refine (unmatched_any _ wdT 0 _ HYw11.out (Nat.le_of_ble_eq_true rfl)).mono ?_
  rintro e w12 ⟨v4, rfl, ho, _, he2⟩
  have ho := ho wd_te
  rw [wd_te]
  rw [wd_tl] at ho
  obtain ⟨A5, c5, hv, hI⟩ := OwnK.slice' (n := 2) ho rfl
  subst hv
  have HI5 := Lib.hid hI
  have HX12 := Lib.hid ((HXw10.out.trans HXw11.out).trans he2)
  have HY12 := Lib.hid (HYw11.out.ext he2)
  have HT12 := Lib.hid (HTw11.out.ext he2)
  clear ho he2 t0 t1 t2 t3 t4 t5 t6 hI
  obtain ⟨t0, t1, t2, t3, t4, t5, t6⟩ := blk7 HT12.out
  go_wp2_with fail
  refine (unmatched_any _ wdT 1 _ HY12.out (Nat.le_of_ble_eq_true rfl)).mono ?_
  rintro e w13 ⟨v6, rfl, _, ho, he2⟩
  have ho := ho (by rw [wd_t1]; decide)
  subst ho
  rw [wd_t1]
  have HX13 := Lib.hid he2
  clear he2 t0 t1 t2 t3 t4 t5 t6 HYw11 HTw11 HY12 HT12
  go_wp2_with fail
  refine (wedge_any _).mono ?_
  rintro e w14 ⟨rfl, hB, he1⟩
  have hge : w13.heap.size < w13.heap.size + 1 := by omega
  generalize w13.heap.size + 1 = b14 at hB hge ⊢
  have HB14 := Lib.hid hB
  have HX14 := Lib.hid he1
  have hlb : b14 + 1 + 1 + 1 + 1 < w14.heap.size := hB.n.lt
  clear hB he1
  simp only [wdA, PcA.val]
  go_upto_region 10 with fail
  refine wp_at fun w15 hw15 => ?_
  have HX15 : Hid (Ext w14 w15) := by show Ext _ _; rw [hw15]; exact (Ext.refl _).alloc _
  have HP15 : Hid (Blk 27 w15 w14.heap.size (wdA b14).cells) := by show Blk _ _ _ _; rw [hw15]; exact Blk.new' rfl
  have HB15 := Lib.hid (HB14.out.ext HX15.out)
  clear hw15
  have hp3 := HP15.out.cell 3
  simp only [PcA.cells, wdA, List.getElem?_cons_succ, List.getElem?_cons_zero] at hp3
  have hn1 := HB15.out.n.cell 1
  have hf1 := HB15.out.n.frozen 1
  simp only [scells, List.flatMap_cons, List.flatMap_nil, List.append_nil, List.cons_append, List.nil_append, List.getElem?_cons_succ, List.getElem?_cons_zero] at hn1
  go_upto_region 11 with fail
  refine wp_at fun w16 hw16 => ?_
  have HB16 : Hid (WdB w16 b14 8001) := by
    show WdB _ _ _
    rw [hw16]
    have h := HB15.out
    exact ⟨h.h.other (by simp only; omega) _, h.s.other (by simp only; omega) _, h.e.other (by simp only; omega) _, h.c.other (by simp only; omega) _, h.n.set 1 _⟩
  have HP16 : Hid (Blk 27 w16 w14.heap.size (wdA b14).cells) := by show Blk _ _ _ _; rw [hw16]; exact HP15.out.other (by simp only; omega) _
  have HX16 : Hid (Ext w13 w16) := by show Ext _ _; rw [hw16]; exact (HX14.out.trans HX15.out).setCell (by simp only; omega) _
  clear hw16 hn1 hf1 hp3
  obtain ⟨p0, p1, p2, p3, p4, p5, p6⟩ := blk7 HP16.out
  simp only [wdA] at p0 p1 p2 p3 p4 p5 p6
  clear hge hlb
  go_wp2_with fail
  refine (placedS_any (wdA b14) wdB 0 _ HB16.out.at).mono ?_
  rintro e w17 ⟨A7, n7, c7, rfl, _, he2⟩
  rw [wd_eb]
  have HI7 := Lib.hid (HI5.out.ext ((HX13.out.trans HX16.out).trans he2))
  have HX17 := Lib.hid ((((HX9.out.trans HX12.out).trans HX13.out).trans HX16.out).trans he2)
  clear p0 p1 p2 p3 p4 p5 p6 he2
  obtain ⟨b3, o3, hA3, s0, s1⟩ := (HS3.out.ext HX17.out).g (k := 0) (by decide)
  subst hA3
  simp only [gS, List.getD_cons_zero, Nat.zero_mul, Nat.add_zero] at s0 s1
  go_wp2_with fail
  have HY17 := Lib.hid ((HX4.out.trans HX6.out).trans HX17.out)
  have HI1 := Lib.hid ((OwnI.plain (own_ext HO1.out HY17.out)).2.1)
  have HI2 := Lib.hid ((OwnI.plain (own_ext HO2.out (HX6.out.trans HX17.out))).2.1)
  refine (sameInts_eq A1 _ 2 c1 2 [2000, 6000] _ (HI1.out.ext (ext1 _ _)) (OwnI.plain (own_of_int (base := 0) (L := [2000, 6000]) (Blk.new' rfl) (Nat.zero_le _) (by decide))).2.1 rfl (by omega)).mono ?_
  rintro e w18 ⟨rfl, he1⟩
  have HX18 := Lib.hid ((ext1 w17 _).trans he1)
  clear he1 s0 s1
  go_wp2_with fail
  refine (sameInts_eq A2 _ 2 c2 2 [3000, 6744] _ (HI2.out.ext (HX18.out.trans (ext1 _ _))) (OwnI.plain (own_of_int (base := 0) (L := [3000, 6744]) (Blk.new' rfl) (Nat.zero_le _) (by decide))).2.1 rfl (by omega)).mono ?_
  rintro e w19 ⟨rfl, he1⟩
  have HX19 := Lib.hid ((HX18.out.trans (ext1 w18 _)).trans he1)
  clear he1
  go_wp2_with fail
  refine (sameIss_eq A5 _ 2 c5 2 [(1, 0, 0), (2, 0, 0)] _ (HI7.out.ext (HX19.out.trans (ext1 _ _))) (IssAt.blk (t := 59) (Blk.new' rfl)) rfl (by omega)).mono ?_
  rintro e w20 ⟨rfl, he1⟩
  have HX20 := Lib.hid ((HX19.out.trans (ext1 w19 _)).trans he1)
  clear he1
  go_wp2_with fail
  go_ret
  exact ⟨rfl, (HX2.out.trans HY17.out).trans HX20.out⟩
end Go.Proofs.YtliijigdbpmpaaaGreat
/- garmentref11.Same: equal lists of spots. No conditions. -/
namespace Go.Proofs.YtliijigdbpmpaaaGreat
open Go.RowKit
/- equal lists of spots -/
theorem R11Same_ne (A B : Option Addr) (n m c d : Nat) (w : World) (hnm : ((n : Int) != m) = true) :
    Calls Tryz.prog 12 #[.slice A n c, .slice B m d] w fun e w' => e = .returned (.bool false) ∧ Ext w w' := by
  go_enter Tryz.func12, Tryz.ntmps12
  go_wp2
  go_ret
  exact ⟨rfl, Ext.refl _⟩
theorem take_same_succ {l m : List Spot} {k : Nat} (hl : k < l.length) (hm : k < m.length) (h : l.take k = m.take k) (he : l[k] = m[k]) : l.take (k + 1) = m.take (k + 1) := by
  rw [take_succ _ _ hl, take_succ _ _ hm, h, he]
set_option maxHeartbeats 400000 in
theorem R11Same_len (A B : Option Addr) (n c d : Nat) (l m : List Spot) (w : World) (ha : SpotsAt w A l) (hb : SpotsAt w B m) (hl : l.length = n) (hm : m.length = n) (hn : n ≤ 9223372036854775807) :
    Calls Tryz.prog 12 #[.slice A n c, .slice B n d] w fun e w' => e = .returned (.bool (decide (l = m))) ∧ Ext w w' := by
  have HL := Lib.hid hl; clear hl
  have HM := Lib.hid hm; clear hm
  have HA := Lib.hid ha; clear ha
  have HB := Lib.hid hb; clear hb
  go_enter Tryz.func12, Tryz.ntmps12
  go_wp2
  go_loopw [5] (fun i wr => ∃ k : Nat, k ≤ n ∧ i = .int .i64 k ∧ l.take k = m.take k ∧ ∃ q, wr = w.drewN q) (fun i _ => n - (intOf i).toNat)
  case atStart => exact ⟨0, Nat.zero_le _, rfl, rfl, 0, rfl⟩
  case round =>
    obtain ⟨k, hk, rfl, ht, q, rfl⟩ := hrel
    have HT := Lib.hid ht; clear ht
    by_cases hlt : k < n
    · have hkl : k < l.length := by rw [HL.out]; exact hlt
      have hkm : k < m.length := by rw [HM.out]; exact hlt
      obtain ⟨b, off, rfl, hc0, hc1⟩ := HA.out k hkl
      obtain ⟨b', off', rfl, hd0, hd1⟩ := HB.out k hkm
      by_cases heq : l[k] = m[k]
      · have hq : eqS l[k].1 l[k].2 m[k].1 m[k].2 = true := (eqS_iff _ _).2 heq
        have HE := Lib.hid heq; clear heq
        go_wp2
        go_quiet (fail)
        go_wp2
        go_roundw
        case rel => exact ⟨k + 1, by omega, by go_num, take_same_succ hkl hkm HT.out HE.out, _, rfl⟩
        case measure => simp [intOf]; omega
      · have hq : eqS l[k].1 l[k].2 m[k].1 m[k].2 = false := by rw [Bool.eq_false_iff]; intro h; exact heq ((eqS_iff _ _).1 h)
        have HE := Lib.hid heq; clear heq
        go_wp2
        go_quiet (fail)
        go_wp2
        go_ret
        exact ⟨ret_bool (by symm; rw [decide_eq_false_iff_not]; rintro rfl; exact HE.out rfl), Ext.drewN (Ext.drewN (Ext.refl _) _) _⟩
    · go_wp2
      go_ret
      exact ⟨ret_bool (by
        have h := HT.out
        rw [List.take_of_length_le (by rw [HL.out]; omega), List.take_of_length_le (by rw [HM.out]; omega)] at h
        simp [h]), Ext.drewN (Ext.refl _) _⟩
theorem R11Same_any (A B : Option Addr) (c d : Nat) (l m : List Spot) (w : World) (ha : SpotsAt w A l) (hb : SpotsAt w B m) (hn' : m.length ≤ 9223372036854775807) :
    Calls Tryz.prog 12 #[.slice A l.length c, .slice B m.length d] w fun e w' => e = .returned (.bool (decide (l = m))) ∧ Ext w w' := by
  by_cases h : l.length = m.length
  · rw [h]; exact R11Same_len A B _ c d l m w ha hb h rfl hn'
  · rw [decide_eq_false (p := l = m) (by rintro rfl; exact h rfl)]
    exact R11Same_ne A B _ _ c d w (by simp; omega)

end Go.Proofs.YtliijigdbpmpaaaGreat
namespace Go.Proofs.YtliijigdbpmpaaaGreat
open Go.RowKit
def plQ (p : Pc) (m : Int) : List Int := if plE p m = 0 then plL p m else []
def spQ (p : Pc) (m : Int) : List Spot := if plE p m = 0 then spL p m else []
theorem plQ_len (p : Pc) (m : Int) : (plQ p m).length ≤ p.ns.length := by unfold plQ; split <;> simp [plL_len]
theorem spQ_len (p : Pc) (m : Int) : (spQ p m).length ≤ p.ns.length := by unfold spQ; split <;> simp [spL_len]
theorem retPd_form {w w' : World} {p : Pc} {m : Int} {e : Ending} (h : RetPd w p m e w') : ∃ A c, e = .returned (.tuple #[.slice A (plQ p m).length c, .int .i64 (plE p m)]) ∧ IntsAt w' A (plQ p m) ∧ Ext w w' := by
  obtain ⟨v, h1, h2, h3, h4⟩ := h
  by_cases hz : plE p m = 0
  · have e1 : plQ p m = plL p m := by unfold plQ; rw [if_pos hz]
    obtain ⟨A, c, hv, hI, _⟩ := OwnI.slice' (n := (plL p m).length) (h2 hz) rfl
    subst hv
    rw [e1]; exact ⟨A, c, h1, hI, h4⟩
  · have e1 : plQ p m = [] := by unfold plQ; rw [if_neg hz]
    have hv := h3 hz
    subst hv
    rw [e1]; exact ⟨none, 0, h1, IntsAt.nil, h4⟩
theorem retSp_form {w w' : World} {p : Pc} {m : Int} {e : Ending} (h : RetSp w p m e w') : ∃ A c, e = .returned (.tuple #[.slice A (spQ p m).length c, .int .i64 (plE p m)]) ∧ SpotsAt w' A (spQ p m) ∧ Ext w w' := by
  obtain ⟨v, h1, h2, h3, h4⟩ := h
  by_cases hz : plE p m = 0
  · have e1 : spQ p m = spL p m := by unfold spQ; rw [if_pos hz]
    obtain ⟨A, c, hv, hI, _⟩ := OwnT.slice' (n := (spL p m).length) (h2 hz) rfl
    subst hv
    rw [e1]; exact ⟨A, c, h1, hI, h4⟩
  · have e1 : spQ p m = [] := by unfold spQ; rw [if_neg hz]
    have hv := h3 hz
    subst hv
    rw [e1]; exact ⟨none, 0, h1, SpotsAt.nil, h4⟩
set_option maxRecDepth 100000 in
set_option maxHeartbeats 3200000 in
theorem placedL_any (a : PcA) (p : Pc) (m : Int) (w : World) (hp : PcAt w a p) :
    Calls Tryz.prog 3 #[a.val, .int .i64 m] w fun e w' => e = .returned (.bool true) ∧ Ext w w' := by
  have HP := Lib.hid hp; clear hp
  have H1 := Lib.hid (fun W (h : Ext w W) => light3_any a p W (HP.out.ext h))
  have H2 := Lib.hid (fun W (h : Ext w W) => placedX_any a p m W (HP.out.ext h))
  have H3 := Lib.hid (fun W (h : Ext w W) (hl : LtP p 60) => rplaced_any a p m W (HP.out.ext h) (by have := hl.e; omega) (by have := hl.c; omega))
  have H4 := Lib.hid (fun W (h : Ext w W) => spots_any a p m W (HP.out.ext h))
  have H5 := Lib.hid (fun W (h : Ext w W) (hl : LtP p 60) => rspots_any a p m W (HP.out.ext h) (by have := hl.e; omega) (by have := hl.c; omega))
  obtain ⟨nm, AE, nE, cE, gr, AN, nN, cN, AC, nC, cC, AW, nW, cW, mt⟩ := a
  simp only [PcA.val] at H1 H2 H3 H4 H5 ⊢
  clear HP
  go_enter Tryz.func3, Tryz.ntmps3
  go_wp2_with fail
  refine (H1.out _ ((Ext.refl _).alloc _)).mono ?_
  rintro e w1 ⟨b, rfl, he1, hb⟩
  have HB1 : Hid (Blk 27 w1 w.heap.size [.string nm, .slice AE nE cE, .int .i64 gr, .slice AN nN cN, .slice AC nC cC, .slice AW nW cW, .bool mt]) := (Blk.new' rfl).ext he1
  have HX1 := Lib.hid (((Ext.refl w).alloc _).trans he1)
  clear he1
  cases b
  · clear hb
    go_wp2_with fail
    refine (awake_any _).mono ?_
    rintro e w2 ⟨rfl, he2⟩
    go_wp2_with fail
    go_ret
    exact ⟨rfl, HX1.out.trans he2⟩
  have HLT := Lib.hid (hb rfl); clear hb
  have hl1 := plQ_len p m; have hl2 := spQ_len p m; have hl3 := HLT.out.n
  have HL1 : Hid ((plQ p m).length ≤ 1000000) := by show _ ≤ _; omega
  have HL2 : Hid ((spQ p m).length ≤ 9223372036854775807) := by show _ ≤ _; omega
  clear hl1 hl2 hl3
  obtain ⟨c0, c1, c2, c3, c4, c5, c6⟩ := blk7 HB1.out
  go_wp2_with fail
  refine (H2.out _ HX1.out).mono ?_
  intro e w2 hr
  obtain ⟨A2, d2, he, hI2, he2⟩ := retPd_form hr
  subst he
  have HX2 := Lib.hid (HX1.out.trans he2); have HB2 := Lib.hid (HB1.out.ext he2); have HI2 := Lib.hid hI2
  clear c0 c1 c2 c3 c4 c5 c6 he2 hI2 hr
  obtain ⟨c0, c1, c2, c3, c4, c5, c6⟩ := blk7 HB2.out
  obtain ⟨LP, hLP⟩ : ∃ L, L = plQ p m := ⟨_, rfl⟩
  obtain ⟨LS, hLS⟩ : ∃ L, L = spQ p m := ⟨_, rfl⟩
  obtain ⟨E, hE⟩ : ∃ E, E = plE p m := ⟨_, rfl⟩
  obtain ⟨n, hn⟩ : ∃ n, n = LP.length := ⟨_, rfl⟩
  obtain ⟨k, hk⟩ : ∃ k, k = LS.length := ⟨_, rfl⟩
  have HR3 : Hid (∀ W, Ext w W → Calls Tryz.prog 8 #[.agg #[.string nm, .slice AE nE cE, .int .i64 gr, .slice AN nN cN, .slice AC nC cC, .slice AW nW cW, .bool mt], .int .i64 m] W fun e w' => ∃ A c, e = .returned (.tuple #[.slice A n c, .int .i64 E]) ∧ IntsAt w' A LP ∧ Ext W w') := fun W h => (H3.out W h HLT.out).mono fun e w' hr => by rw [hn, hE, hLP]; exact retPd_form hr
  have HR4 : Hid (∀ W, Ext w W → Calls Tryz.prog 9 #[.agg #[.string nm, .slice AE nE cE, .int .i64 gr, .slice AN nN cN, .slice AC nC cC, .slice AW nW cW, .bool mt], .int .i64 m] W fun e w' => ∃ A c, e = .returned (.tuple #[.slice A k c, .int .i64 E]) ∧ SpotsAt w' A LS ∧ Ext W w') := fun W h => (H4.out W h).mono fun e w' hr => by rw [hk, hE, hLS]; exact retSp_form hr
  have HR5 : Hid (∀ W, Ext w W → Calls Tryz.prog 10 #[.agg #[.string nm, .slice AE nE cE, .int .i64 gr, .slice AN nN cN, .slice AC nC cC, .slice AW nW cW, .bool mt], .int .i64 m] W fun e w' => ∃ A c, e = .returned (.tuple #[.slice A k c, .int .i64 E]) ∧ SpotsAt w' A LS ∧ Ext W w') := fun W h => (H5.out W h HLT.out).mono fun e w' hr => by rw [hk, hE, hLS]; exact retSp_form hr
  rw [← hLP] at HI2 HL1
  rw [← hLS] at HL2
  rw [← hLP, ← hE, ← hn]
  have HN := Lib.hid hn.symm; have HK := Lib.hid hk.symm
  rw [HN.out] at HL1
  rw [HK.out] at HL2
  clear hLP hLS hE hn hk H2 H3 H4 H5
  go_wp2_with fail
  refine (HR3.out _ HX2.out).mono ?_
  rintro e w3 ⟨A3, d3, rfl, hI3, he3⟩
  have HX3 := Lib.hid (HX2.out.trans he3); have HB3 := Lib.hid (HB2.out.ext he3); have HI3 := Lib.hid hI3; have HI23 := Lib.hid (HI2.out.ext he3)
  clear c0 c1 c2 c3 c4 c5 c6 he3 hI3
  obtain ⟨c0, c1, c2, c3, c4, c5, c6⟩ := blk7 HB3.out
  go_wp2_with fail
  refine (HR4.out _ HX3.out).mono ?_
  rintro e w4 ⟨A4, d4, rfl, hI4, he4⟩
  have HX4 := Lib.hid (HX3.out.trans he4); have HB4 := Lib.hid (HB3.out.ext he4); have HI4 := Lib.hid hI4; have HE34 := Lib.hid he4
  clear c0 c1 c2 c3 c4 c5 c6 he4 hI4
  obtain ⟨c0, c1, c2, c3, c4, c5, c6⟩ := blk7 HB4.out
  go_wp2_with fail
  refine (HR5.out _ HX4.out).mono ?_
  rintro e w5 ⟨A5, d5, rfl, hI5, he5⟩
  have HX5 := Lib.hid (HX4.out.trans he5); have HI5 := Lib.hid hI5; have HE45 := Lib.hid he5
  clear c0 c1 c2 c3 c4 c5 c6 he5 hI5
  have s1 : (E == E) = true := by simp
  go_wp2_with fail
  refine (sameInts_eq A2 A3 n d2 d3 LP _ (HI23.out.ext (HE34.out.trans HE45.out)) (HI3.out.ext (HE34.out.trans HE45.out)) HN.out HL1.out).mono ?_
  rintro e w6 ⟨rfl, he6⟩
  have HX6 := Lib.hid (HX5.out.trans he6)
  have HS4 := Lib.hid (HI4.out.ext (HE45.out.trans he6)); have HS5 := Lib.hid (HI5.out.ext he6)
  clear he6
  go_wp2_with fail
  refine (R11Same_len A4 A5 k d4 d5 LS LS _ HS4.out HS5.out HK.out HK.out HL2.out).mono ?_
  rintro e w7 ⟨rfl, he7⟩
  have hdt : decide (LS = LS) = true := decide_eq_true rfl
  rw [hdt]
  clear hdt
  go_wp2_with fail
  refine (awake_any _).mono ?_
  rintro e w8 ⟨rfl, he8⟩
  go_wp2_with fail
  go_ret
  exact ⟨rfl, (HX6.out.trans he7).trans he8⟩
end Go.Proofs.YtliijigdbpmpaaaGreat
