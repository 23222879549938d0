/- the reference: garmentref23.Placed -/
import Derived.Deep.CutRange
import Derived.Deep.CutBlock
import Derived.Test.YtliijigdbpmpaaaGreatKPlaced
import Derived.Test.YtliijigdbpmpaaaGreatKRefN
import Derived.Test.YtliijigdbpmpaaaGreatKRefC
/- the reference: garmentref22.share, Partner -/
namespace Go.Proofs.YtliijigdbpmpaaaGreat
open Go.RowKit
theorem digs_q {a R c k q l : Nat} (h : Digs a R c k q l) (hR : R < c) : q ≤ a := by
  have hs := h.sum
  have h1 : a / 2 ^ k * R ≤ a * c := Nat.mul_le_mul (Nat.div_le_self _ _) (Nat.le_of_lt hR)
  exact Nat.le_of_mul_le_mul_right (show q * c ≤ a * c by omega) (by omega)
theorem part_le_b {a b c : Nat} (hc : 1 ≤ c) (ha : a ≤ c) : partQ a b c ≤ b := part_le hc ha
set_option maxRecDepth 100000 in
set_option maxHeartbeats 1600000 in
theorem share_any (a b c : Nat) (w : World) (hc : 1 ≤ c) (hc2 : c ≤ 1099511627776) (hb : b ≤ 1099511627776) (ha : a ≤ c) :
    Calls Tryz.prog 37 #[.int .i64 (a : Int), .int .i64 (b : Int), .int .i64 (c : Int)] w fun e w' => e = .returned (.int .i64 (partQ a b c : Int)) ∧ Ext w w' := by
  have hc0 : ((c : Int) == 0) = false := by simp; omega
  have hc1 : ¬ (c : Int) = 0 := by omega
  have hcn : ¬ c = 0 := by omega
  go_enter Tryz.func37, Tryz.ntmps37
  go_wp2_with fail
  go_quiet (fail)
  go_wp2_with fail
  obtain ⟨D, hD⟩ : ∃ D, D = b / c := ⟨_, rfl⟩
  obtain ⟨R, hR⟩ : ∃ R, R = b % c := ⟨_, rfl⟩
  obtain ⟨O, hO⟩ : ∃ O, O = a * D := ⟨_, rfl⟩
  have hRl : R < c := by rw [hR]; exact Nat.mod_lt _ (by omega)
  have hOb : O ≤ b := by
    rw [hO, hD]
    exact Nat.le_trans (Nat.mul_le_mul_right _ ha) (Nat.mul_div_le _ _)
  have hDb : D ≤ b := by rw [hD]; exact Nat.div_le_self _ _
  have g1 : wrap64 ((b : Int) / (c : Int)) = (D : Int) := by rw [← Int.natCast_ediv, ← hD]; exact IntWalk.wrap64_in _ ⟨by omega, by omega⟩
  have g2 : (b : Int) % (c : Int) = (R : Int) := by rw [← Int.natCast_emod, ← hR]
  have g3 : wrap64 ((a : Int) * (D : Int)) = (O : Int) := by rw [← Int.natCast_mul, ← hO]; exact IntWalk.wrap64_in _ ⟨by omega, by omega⟩
  simp only [g1, g2, g3]
  clear g1 g2 g3 hc0 hDb
  have HFIN : Hid (∀ q l : Nat, Digs a R c 0 q l → O + (q + if c ≤ 2 * l then 1 else 0) = partQ a b c) := fun q l h => by rw [hO, hD]; rw [hR] at h; exact digs_end h hc
  clear hD hR hO
  have hPb := part_le (t := b) hc ha
  refine wp_at fun W0 hW0 => ?_
  have hx0 : Ext w W0 := by rw [hW0]; exact Ext.drewN (Ext.refl _) _
  have HX0 := Lib.hid hx0; clear hW0 hx0
  go_loopw [10, 11, 12] (fun x y i wr => ∃ k q l : Nat, k ≤ 41 ∧ i = .int .i64 ((k : Int) - 1) ∧ x = .int .i64 (q : Int) ∧ y = .int .i64 (l : Int) ∧ Digs a R c k q l ∧ wr = W0) (fun _ _ i _ => ((intOf i) + 1).toNat)
  case atStart => exact ⟨41, 0, 0, Nat.le_refl _, rfl, rfl, rfl, digs_start (by omega) hc, rfl⟩
  case round =>
    obtain ⟨k, q, l, hk, rfl, rfl, rfl, hd, rfl⟩ := hrel
    have hll := hd.lt
    have HD := Lib.hid hd; clear hd
    match k, hk, HD with
    | 0, hk, HD =>
      have hfin := HFIN.out q l HD.out
      by_cases hcl : c ≤ 2 * l
      · rw [if_pos hcl] at hfin
        have hci : (c : Int) ≤ 2 * (l : Int) := by omega
        go_wp2_with fail
        go_ret
        exact ⟨ret_int (by omega), HX0.out⟩
      · rw [if_neg hcl] at hfin
        have hci : ¬ (c : Int) ≤ 2 * (l : Int) := by omega
        go_wp2_with fail
        go_ret
        exact ⟨ret_int (by omega), HX0.out⟩
    | j + 1, hk, HD =>
      obtain ⟨B, hB⟩ : ∃ B, B = a / 2 ^ j % 2 := ⟨_, rfl⟩
      have hon := digs_on HD.out hc hB
      have hq := digs_q HD.out hRl
      rw [show ((j + 1 : Nat) : Int) - 1 = (j : Int) from by omega]
      have hq' := digs_q hon hRl
      have ebit : ((a : Int) / 2 ^ j).tmod 2 = (B : Int) := by
        have e1 : (a : Int) / 2 ^ j = ((a / 2 ^ j : Nat) : Int) := by simp
        rw [e1, Int.tmod_eq_emod_of_nonneg (Int.natCast_nonneg _), hB]; exact (Int.natCast_emod _ _).symm
      have hB2 : B < 2 := by rw [hB]; exact Nat.mod_lt _ (by omega)
      clear hB
      by_cases hB1 : B = 1
      · subst hB1
        rw [Nat.one_mul] at hon hq'
        have hbit : (((a : Int) / 2 ^ j).tmod 2 == 1) = true := by rw [ebit]; rfl
        have HON := Lib.hid hon
        have HQ' := Lib.hid hq'
        clear ebit hon hq' hB2
        go_wp2_with fail
        refine ⟨⟨j, 2 * q + (2 * l + R) / c, (2 * l + R) % c, by omega, rfl, ?_, ?_, HON.out, trivial⟩, by simp [intOf]⟩
        · have h := HQ'.out
          have e : (2 * (q : Int) + (2 * (l : Int) + (R : Int)) / (c : Int)) = ((2 * q + (2 * l + R) / c : Nat) : Int) := by simp
          rw [e]
          generalize 2 * q + (2 * l + R) / c = q2 at *
          rw [IntWalk.wrap64_in _ ⟨by omega, by omega⟩]
        · simp
      · obtain rfl : B = 0 := by omega
        rw [Nat.zero_mul, Nat.add_zero] at hon hq'
        have hbit : (((a : Int) / 2 ^ j).tmod 2 == 1) = false := by rw [ebit]; rfl
        have HON := Lib.hid hon
        have HQ' := Lib.hid hq'
        clear ebit hon hq' hB2
        go_wp2_with fail
        refine ⟨⟨j, 2 * q + (2 * l) / c, (2 * l) % c, by omega, rfl, ?_, ?_, HON.out, trivial⟩, by simp [intOf]⟩
        · have h := HQ'.out
          have e : (2 * (q : Int) + (2 * (l : Int)) / (c : Int)) = ((2 * q + (2 * l) / c : Nat) : Int) := by simp
          rw [e]
          generalize 2 * q + (2 * l) / c = q2 at *
          rw [IntWalk.wrap64_in _ ⟨by omega, by omega⟩]
        · simp
set_option maxRecDepth 100000 in
set_option maxHeartbeats 1600000 in
theorem rpartner_any (f t a : Int) (r : Bool) (w : World) :
    Calls Tryz.prog 22 #[.int .i64 f, .int .i64 t, .bool r, .int .i64 a] w (RetPt w f t r a) := by
  by_cases h1 : f < 1
  · go_enter Tryz.func22, Tryz.ntmps22
    go_wp2_with fail
    go_ret2
    exact retPt_bad (by omega)
  by_cases h2 : 1099511627776 < f
  · go_enter Tryz.func22, Tryz.ntmps22
    go_wp2_with fail
    go_ret2
    exact retPt_bad (by omega)
  by_cases h3 : t < 0
  · go_enter Tryz.func22, Tryz.ntmps22
    go_wp2_with fail
    go_ret2
    exact retPt_bad (by omega)
  by_cases h4 : 1099511627776 < t
  · go_enter Tryz.func22, Tryz.ntmps22
    go_wp2_with fail
    go_ret2
    exact retPt_bad (by omega)
  by_cases h5 : a < 0
  · go_enter Tryz.func22, Tryz.ntmps22
    go_wp2_with fail
    go_ret2
    exact retPt_bad (by omega)
  by_cases h6 : f < a
  · go_enter Tryz.func22, Tryz.ntmps22
    go_wp2_with fail
    go_ret2
    exact retPt_bad (by omega)
  obtain ⟨F, rfl⟩ := Int.eq_ofNat_of_zero_le (show 0 ≤ f by omega)
  obtain ⟨T, rfl⟩ := Int.eq_ofNat_of_zero_le (show 0 ≤ t by omega)
  obtain ⟨X, rfl⟩ := Int.eq_ofNat_of_zero_le (show 0 ≤ a by omega)
  have HOK : Hid (1 ≤ (F : Int) ∧ (F : Int) ≤ 1099511627776 ∧ 0 ≤ (T : Int) ∧ (T : Int) ≤ 1099511627776 ∧ 0 ≤ (X : Int) ∧ (X : Int) ≤ (F : Int)) := ⟨by omega, by omega, by omega, by omega, by omega, by omega⟩
  have hF1 : 1 ≤ F := by omega
  have hX2 : X ≤ F := by omega
  have hle2 : partQ X T F ≤ T := part_le hF1 hX2
  have HN : Hid (∀ r, partN (F : Int) (T : Int) r (X : Int) = if r = true then (T : Int) - (partQ X T F : Int) else (partQ X T F : Int)) := fun r => by unfold partN; simp
  go_enter Tryz.func22, Tryz.ntmps22
  go_wp2_with fail
  refine (share_any X T F _ hF1 (by omega) (by omega) hX2).mono ?_
  rintro e w1 ⟨rfl, he1⟩
  obtain ⟨N, hN⟩ : ∃ N, N = partQ X T F := ⟨_, rfl⟩
  rw [← hN] at hle2 HN ⊢
  have HX := Lib.hid he1; clear he1 hN
  cases r
  · go_wp2_with fail
    go_ret2
    exact retPt_ok HOK.out (by rw [HN.out]; simp) HX.out
  · go_wp2_with fail
    go_ret2
    exact retPt_ok HOK.out (by rw [HN.out]; simp) HX.out
end Go.Proofs.YtliijigdbpmpaaaGreat
namespace Go.Proofs.YtliijigdbpmpaaaGreat
open Go.RowKit
theorem retPd_bad {w w' : World} {p : Pc} {m x : Int} (h : plE p m = x) (hx : x ≠ 0) (he : Ext w w') : RetPd w p m (.returned (.tuple #[.slice none 0 0, .int .i64 x])) w' :=
  ⟨_, by rw [h], fun h0 => absurd (h.symm.trans h0) hx, fun _ => rfl, he⟩
set_option maxRecDepth 100000 in
set_option maxHeartbeats 3200000 in
theorem rplaced_any (a : PcA) (p : Pc) (m : Int) (w : World) (hp : PcAt w a p) (hb1 : p.es.length ≤ 1000) (hb2 : p.cs.length ≤ 1000) :
    Calls Tryz.prog 8 #[a.val, .int .i64 m] w (RetPd w p m) := by
  have HP := Lib.hid hp; clear hp
  have HG := Lib.hid (fun W (h : Ext w W) => rgraded_any a.nm a.AE a.AN a.AC a.AW a.nE a.cE a.nN a.cN a.nC a.cC a.nW a.cW a.gr m a.mt p.es p.cs W (HP.out.e.ext h) HP.out.le (HP.out.c.ext h) HP.out.lc (by rw [← HP.out.le]; exact hb1) (by rw [← HP.out.lc]; exact hb2))
  clear hb1 hb2
  obtain ⟨nm, AE, nE, cE, gr, AN, nN, cN, AC, nC, cC, AW, nW, cW, mt⟩ := a
  obtain ⟨es, cs, ws, ns⟩ := p
  simp only at HG
  have HLE : Hid (es.length = nE) := HP.out.le
  have HLN : Hid (ns.length = nN) := HP.out.ln
  have HE : Hid (EdgesAt w AE es) := HP.out.e
  have HN : Hid (SpotsAt w AN ns) := HP.out.n
  have HPE : Hid (plE ⟨es, cs, ws, ns⟩ m = if gradedR es cs m ≠ 0 then gradedR es cs m else if 16 < nN then 5 else firstE (ntE ⟨es, cs, ws, ns⟩ m) nN) := by show _ = _; rw [← HLN.out]; rfl
  have HNT : Hid (∀ i, ntE ⟨es, cs, ws, ns⟩ m i = if (gS ns i).1 < 0 ∨ (es.length : Int) ≤ (gS ns i).1 then 3 else partE (lengthN (gE es (gS ns i).1.toNat).2) (lengthN (gE (gradedE es cs m) (gS ns i).1.toNat).2) (gS ns i).2) := fun i => rfl
  have HPV : Hid (∀ i, plV ⟨es, cs, ws, ns⟩ m i = partV (lengthN (gE es (gS ns i).1.toNat).2) (lengthN (gE (gradedE es cs m) (gS ns i).1.toNat).2) false (gS ns i).2) := fun i => rfl
  have HPL : Hid (plL ⟨es, cs, ws, ns⟩ m = plTo ⟨es, cs, ws, ns⟩ m nN) := by show _ = _; rw [← HLN.out]; rfl
  obtain ⟨pc, hpc⟩ : ∃ pc, pc = (⟨es, cs, ws, ns⟩ : Pc) := ⟨_, rfl⟩
  rw [← hpc] at HPE HNT HPV HPL ⊢
  have HPG : Hid (gradedE pc.es pc.cs m = gradedE es cs m) := by show _ = _; rw [hpc]
  clear hpc
  simp only [PcA.val]
  obtain ⟨i0, hi0, hz0, hz1, hz2⟩ := info_parts int_info
  go_enter Tryz.func8, Tryz.ntmps8
  go_wp2_with fail
  refine (HG.out _ ((Ext.refl _).alloc _)).mono ?_
  rintro e w1 ⟨v1, rfl, hv, hv', he1⟩
  have HB1 : Hid (Blk 27 w1 w.heap.size [.string nm, .slice AE nE cE, .int .i64 gr, .slice AN nN cN, .slice AC nC cC, .slice AW nW cW, .bool mt]) := (Blk.new' rfl).ext he1
  have HX1 := Lib.hid (((Ext.refl w).alloc _).trans he1)
  by_cases hz : gradedR es cs m = 0
  rotate_left
  · have hvf := hv' hz
    subst hvf
    have HR : Hid (plE pc m = gradedR es cs m) := by show _ = _; rw [HPE.out, if_pos hz]
    have hzb : (gradedR es cs m != 0) = true := by simp [hz]
    obtain ⟨x, hx⟩ : ∃ x, x = gradedR es cs m := ⟨_, rfl⟩
    rw [← hx] at hz hzb HR ⊢
    have HZ := Lib.hid hz; clear hv hv' hz hx he1
    go_wp2_with fail
    go_ret2
    exact retPd_bad HR.out HZ.out HX1.out
  have hO := hv hz
  have HOE := Lib.hid (show OwnE w1 w.heap.size v1 (gradedE es cs m) from by
    obtain ⟨ps, h1, h2⟩ := hO
    refine ⟨ps, ⟨h1.1, fun k hk => ⟨(h1.2 k hk).1, own_base_le (h1.2 k hk).2 ?_⟩⟩, own_base_le h2 ?_⟩ <;> simp)
  have hGOK := (gradedR_iff es cs m).1 hz
  have HLB := Lib.hid (fun k (h : k < es.length) => ocheck_line hGOK.ok h)
  have HLG := Lib.hid (fun k (h : k < es.length) => graded_lines (cs := cs) (m := m) hz h)
  obtain ⟨A1, c1', hvf, hE1, _, _⟩ := OwnE.slice' (n := nE) hO (by rw [gradedE_len]; exact HLE.out)
  subst hvf
  have HGE := Lib.hid hE1
  rw [hz] at HPE ⊢
  clear hv hv' hz hO hE1 he1 hGOK HG
  simp only [ne_eq, not_true_eq_false, if_false] at HPE
  obtain ⟨c0, c1, c2, c3, c4, c5, c6⟩ := blk7 HB1.out
  by_cases h16 : 16 < nN
  · have HR : Hid (plE pc m = 5) := by show _ = _; rw [HPE.out, if_pos h16]
    go_wp2_with fail
    go_ret2
    exact retPd_bad HR.out (by decide) HX1.out
  rw [if_neg h16] at HPE
  go_wp2_with fail
  clear c0 c1 c2 c3 c4 c5 c6
  go_loopw [8, 9] (fun v i wr => ∃ k : Nat, k ≤ nN ∧ i = .int .i64 k ∧ firstE (ntE pc m) k = 0 ∧ OwnI wr w1.heap.size v (plTo pc m k) ∧ Ext w1 wr) (fun _ i _ => nN - (intOf i).toNat)
  case atStart => exact ⟨0, Nat.zero_le _, rfl, rfl, OwnI.nil _ _, Ext.refl _⟩
  case round =>
    obtain ⟨k, hk, rfl, ht, ho, hx⟩ := hrel
    have HT := Lib.hid ht; clear ht
    have hlk := plTo_len pc m k
    obtain ⟨LK, hLK⟩ : ∃ LK, LK = plTo pc m k := ⟨_, rfl⟩
    rw [← hLK] at ho hlk
    have HLKE := Lib.hid hLK; have HO := Lib.hid ho; have HX := Lib.hid hx; clear hLK ho hx
    have HXw := Lib.hid (HX1.out.trans HX.out)
    by_cases hlt : k < nN
    · obtain ⟨bn, on, hAN, n0, n1⟩ := (HN.out.ext HXw.out).g (k := k) (by rw [HLN.out]; exact hlt)
      subst hAN
      obtain ⟨nt, hnt⟩ : ∃ nt, nt = gS ns k := ⟨_, rfl⟩
      rw [← hnt] at n0 n1
      have hNTk := HNT.out k
      have hPVk := HPV.out k
      rw [← hnt] at hNTk hPVk
      have HNTk := Lib.hid hNTk; have HPVk := Lib.hid hPVk
      clear hnt hNTk hPVk
      obtain ⟨ed, at'⟩ := nt
      simp only at n0 n1 HNTk HPVk
      obtain ⟨c0, c1, c2, c3, c4, c5, c6⟩ := blk7 (HB1.out.ext HX.out)
      have hpl : w.heap.size < wr.heap.size := (HB1.out.ext HX.out).lt
      by_cases e0 : ed < 0
      · have HNE : Hid (ntE pc m k = 3) := by show _ = _; rw [HNTk.out, if_pos (Or.inl e0)]
        have HR : Hid (plE pc m = 3) := by show _ = _; rw [HPE.out, firstE_at hlt HT.out (by rw [HNE.out]; decide), HNE.out]
        go_wp2_with fail
        go_ret2
        exact retPd_bad HR.out (by decide) (HXw.out.alloc _)
      by_cases e1 : (nE : Int) ≤ ed
      · have HNE : Hid (ntE pc m k = 3) := by show _ = _; rw [HNTk.out, if_pos (Or.inr (by rw [HLE.out]; exact e1))]
        have HR : Hid (plE pc m = 3) := by show _ = _; rw [HPE.out, firstE_at hlt HT.out (by rw [HNE.out]; decide), HNE.out]
        go_wp2_with fail
        go_ret2
        exact retPd_bad HR.out (by decide) (HXw.out.alloc _)
      obtain ⟨D, rfl⟩ := Int.eq_ofNat_of_zero_le (show 0 ≤ ed by omega)
      have hD : D < nE := by omega
      have hDl : D < es.length := by rw [HLE.out]; exact hD
      have HNE := HNTk.out
      rw [if_neg (by rw [HLE.out]; omega), Int.toNat_natCast] at HNE
      have HPVd := HPVk.out
      rw [Int.toNat_natCast] at HPVd
      have HNEh := Lib.hid HNE; have HPVh := Lib.hid HPVd
      clear HNE HPVd HNTk HPVk
      have HXL : Hid (Ext wr (wr.alloc (.cells #[.int .i64 (D : Int), .int .i64 at'] 55))) := (Ext.refl _).alloc _
      have HZB := Lib.hid (HLB.out D hDl); have HZG := Lib.hid (HLG.out D hDl)
      obtain ⟨be, oe, L, cL, hAE, l0, l1, hSL, _, _⟩ := (HE.out.ext HXw.out).g (k := D) hDl
      subst hAE
      obtain ⟨lb, hlb⟩ : ∃ lb, lb = (gE es D).2 := ⟨_, rfl⟩
      rw [← hlb] at l1 hSL HZB HNEh HPVh
      clear hlb l0
      have hbe : be < wr.heap.size := cell_lt l1
      obtain ⟨nl, hnl⟩ : ∃ nl, nl = lb.length := ⟨_, rfl⟩
      rw [← hnl] at l1
      have HNL := Lib.hid hnl; have HSL := Lib.hid hSL; clear hnl hSL
      go_wp2_with fail
      refine (rlength_any L nl cL lb _ (HSL.out.ext HXL.out) HNL.out.symm).mono ?_
      rintro e w2 ⟨rfl, he2⟩
      rw [HZB.out]
      have HNB : Hid (Blk 55 w2 wr.heap.size [.int .i64 (D : Int), .int .i64 at']) := (Blk.new' rfl).ext he2
      have HX2 := Lib.hid ((HX.out.trans HXL.out).trans he2)
      have HXr2 := Lib.hid (HXL.out.trans he2)
      clear he2 c0 c1 c2 c3 c4 c5 c6 n0 n1 l1 hpl hbe
      obtain ⟨bg, og, LG, cG, hAG, g0, g1, hSG, _, _⟩ := (HGE.out.ext HX2.out).g (k := D) (by rw [gradedE_len]; exact hDl)
      subst hAG
      obtain ⟨lg, hlg⟩ : ∃ lg, lg = (gE (gradedE es cs m) D).2 := ⟨_, rfl⟩
      rw [← hlg] at g1 hSG HZG HNEh HPVh
      clear hlg g0
      obtain ⟨ng, hng⟩ : ∃ ng, ng = lg.length := ⟨_, rfl⟩
      rw [← hng] at g1
      have HNG := Lib.hid hng; have HSG := Lib.hid hSG; clear hng hSG
      obtain ⟨b0, b1⟩ := blk2 HNB.out
      go_wp2_with fail
      refine (rlength_any LG ng cG lg _ HSG.out HNG.out.symm).mono ?_
      rintro e w3 ⟨rfl, he3⟩
      rw [HZG.out]
      have HX3 := Lib.hid (HX2.out.trans he3)
      have HXr3 := Lib.hid (HXr2.out.trans he3)
      have HNB3 := Lib.hid (HNB.out.ext he3)
      clear he3 g1 b0 b1
      obtain ⟨b0, b1⟩ := blk2 HNB3.out
      go_wp2_with fail
      refine (rpartner_any (lengthN lb : Int) (lengthN lg : Int) at' false _).mono ?_
      rintro e w4 ⟨rfl, he4⟩
      rw [← HNEh.out, ← HPVh.out]
      have HX4 := Lib.hid (HX3.out.trans he4)
      have HXr4 := Lib.hid (HXr3.out.trans he4)
      clear he4 b0 b1
      obtain ⟨PV, hPV⟩ : ∃ PV, PV = plV pc m k := ⟨_, rfl⟩
      obtain ⟨NE, hNE⟩ : ∃ NE, NE = ntE pc m k := ⟨_, rfl⟩
      rw [← hPV, ← hNE]
      have HPVe := Lib.hid hPV; have HNEe := Lib.hid hNE
      clear hPV hNE HNEh HPVh
      by_cases hz : NE = 0
      rotate_left
      · have HR : Hid (plE pc m = NE) := by show _ = _; rw [HPE.out, firstE_at hlt HT.out (by rw [← HNEe.out]; exact hz), HNEe.out]
        have hzb : (NE != 0) = true := by simp [hz]
        have HZ := Lib.hid hz; clear hz
        go_wp2_with fail
        go_ret2
        exact retPd_bad HR.out HZ.out (HX1.out.trans HX4.out)
      subst hz
      have HT' := Lib.hid (firstE_succ (f := ntE pc m) HT.out HNEe.out.symm)
      have hbb : w1.heap.size ≤ w4.heap.size := HX4.out.size
      have H63 : Hid (LK.length + 1 ≤ maxLen) := by show _ ≤ _; unfold maxLen; omega
      have H64 : Hid ((LK.length + 1) * 8 ≤ 140737488355328) := by show _ ≤ _; omega
      have HC6 : Hid (w1.heap.size ≤ (w4.alloc (.cells #[.int .i64 PV] 3)).heap.size) := by show _ ≤ _; simp; omega
      go_wp2_with (at_builtin; refine wpList_append_own _ rfl (.tmp 85) (.tmp 87) 25 rfl w1.heap.size 3 i0 (.int .i64 0) 1 8 Tryz.underlying25 hi0 hz0 hz1 hz2 rfl (by decide) _ _ _ rfl (World.ownsRow.alloc (own_ext HO.out HXr4.out) _) ⟨w4.heap.size, 0, none⟩ 1 1 [.int .i64 PV] rfl rfl (World.news_of_block (cs := #[.int .i64 PV]) (t := 3) (fr := (0, 0)) (heap_alloc_new w4 _)) (by simp [Value.oneCell']) H63.out H64.out HC6.out ?_)
      intro v' w5 hown' hgrow _
      have hO' : OwnI w5 w1.heap.size v' (plTo pc m (k + 1)) := by
        rw [plTo_succ, ← HLKE.out, ← HPVe.out]
        unfold OwnI icells
        rw [List.length_append, List.map_append, hlk]
        exact hown'
      have hx' : Ext w1 w5 := (HX4.out.alloc _).grown hgrow (fun g hg => (World.ownsRow.lt HO.out g hg).1)
      have HO' := Lib.hid hO'; clear hO' hown' hgrow
      go_wp2_with fail
      go_roundw
      case rel => exact ⟨k + 1, by omega, by go_num, HT'.out, HO'.out, hx'⟩
      case measure => simp [intOf]; omega
    · obtain rfl : k = nN := by omega
      obtain ⟨c0, c1, c2, c3, c4, c5, c6⟩ := blk7 (HB1.out.ext HX.out)
      go_wp2_with fail
      go_ret2
      have hE0 : plE pc m = 0 := by rw [HPE.out]; exact HT.out
      refine ⟨_, by rw [hE0]; rfl, fun _ => ?_, fun h => absurd hE0 h, HXw.out⟩
      rw [HPL.out, ← HLKE.out]
      exact own_base_le HO.out HX1.out.size
end Go.Proofs.YtliijigdbpmpaaaGreat
