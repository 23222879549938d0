/- the reference: garmentref20.named, Vertices, Check -/
import Derived.Test.YtliijigdbpmpaaaGreatKRefK
import Derived.Test.YtliijigdbpmpaaaGreatKRefB
namespace Go.Proofs.YtliijigdbpmpaaaGreat
open Go.RowKit
set_option maxHeartbeats 800000 in
theorem named_any (A : Option Addr) (n c k : Nat) (l : List Edge) (nm : ByteArray) (w : World) (ha : EdgesAt w A l) (hl : l.length = n) (hk : k ≤ n) (hn : n ≤ 1000) :
    Calls Tryz.prog 56 #[.slice A n c, .int .i64 (k : Int), .string nm] w fun e w' => e = .returned (.bool (!allB (fun j => !((gE l j).1.toList == nm.toList)) k)) ∧ w = w' := by
  have HL := Lib.hid hl; clear hl
  have HA := Lib.hid ha; clear ha
  go_enter Tryz.func56, Tryz.ntmps56
  go_wp2_with fail
  go_loop [7] (fun i => ∃ j : Nat, j ≤ k ∧ i = .int .i64 j ∧ allB (fun j => !((gE l j).1.toList == nm.toList)) j = true) (fun i => k - (intOf i).toNat)
  case atStart => exact ⟨0, Nat.zero_le _, rfl, rfl⟩
  case round =>
    obtain ⟨j, hj, rfl, ht⟩ := hrel
    have HT := Lib.hid ht; clear ht
    by_cases hlt : j < k
    · obtain ⟨b, off, L, cL, hA, hc0, hc1, hs, hcl, hcm⟩ := HA.out.g (k := j) (by rw [HL.out]; omega)
      subst hA
      clear hs
      have hjn : j < n := by omega
      cases hp : ((gE l j).1.toList == nm.toList)
      · go_wp2_with fail
        go_round
        case rel => exact ⟨j + 1, by omega, by go_num, allB_succ HT.out (by rw [hp]; rfl)⟩
        case measure => simp [intOf]; omega
      · have HP := Lib.hid hp
        go_wp2_with fail
        go_ret
        exact ⟨ret_bool (by rw [allB_false (k := j) hlt (by rw [HP.out]; rfl)]; rfl), rfl⟩
    · obtain rfl : j = k := by omega
      go_wp2_with fail
      go_ret
      exact ⟨ret_bool (by rw [HT.out]; rfl), rfl⟩
set_option maxRecDepth 100000 in
set_option maxHeartbeats 800000 in
theorem rvertices_any (A : Option Addr) (n c : Nat) (l : List Edge) (w : World) (ha : EdgesAt w A l) (hl : l.length = n) (hn : n ≤ 1000) (hlen : ∀ k, k < n → 1 ≤ (gE l k).2.length ∧ (gE l k).2.length ≤ 40) :
    Calls Tryz.prog 58 #[.slice A n c] w (RetS w (verts l)) := by
  have HL := Lib.hid hl; clear hl
  have HA := Lib.hid ha; clear ha
  have HN := Lib.hid hlen; clear hlen
  obtain ⟨i0, hi0, hz0, hz1, hz2⟩ := info_parts spot_info
  go_enter Tryz.func58, Tryz.ntmps58
  go_wp2
  go_loopw [3, 4] (fun v i wr => ∃ k : Nat, k ≤ n ∧ i = .int .i64 k ∧ OwnS wr w.heap.size v (verts (l.take k)) ∧ Ext w wr) (fun _ i _ => n - (intOf i).toNat)
  case atStart => exact ⟨0, Nat.zero_le _, rfl, OwnS.nil _ _, Ext.refl _⟩
  case round =>
    obtain ⟨k, hk, rfl, ho, hx⟩ := hrel
    have HO := Lib.hid ho; clear ho
    by_cases hlt : k < n
    · have hkl : k < l.length := by rw [HL.out]; exact hlt
      obtain ⟨b, off, L, cL, rfl, hc0, hc1, hs, hcl, hcm⟩ := (HA.out.ext hx).g hkl
      obtain ⟨hm1, hm40⟩ := HN.out k hlt
      obtain ⟨m, hm⟩ : ∃ m, (gE l k).2.length = m + 1 := ⟨(gE l k).2.length - 1, by omega⟩
      have HD := Lib.hid (dropLast_take hm)
      have hs' := hs.take m
      obtain ⟨bl, ol, rfl, _⟩ := hs.g (k := 0) (by omega)
      rw [hm] at hc1 hcl hm40
      have HM := Lib.hid hm; clear hm
      have HS := Lib.hid hs'; clear hs' hs
      have hvl : (verts (l.take k)).length ≤ 40000 := by
        have h := verts_len (l := l.take k) (fun e he => by
          obtain ⟨j, hj, rfl⟩ := List.getElem_of_mem he
          have hjk : j < n := by have h2 : (l.take k).length ≤ k := List.length_take_le _ _; omega
          have := (HN.out j hjk).2
          rw [gE_eq (by rw [HL.out]; exact hjk)] at this
          simpa using this)
        have h2 : (l.take k).length ≤ k := List.length_take_le _ _
        omega
      have HV := Lib.hid hvl; clear hvl
      go_wp2_with (at_builtin; refine wpList_append_own _ rfl (.tmp 20) (.tmp 28) 24 rfl w.heap.size 57 i0 (.agg #[.int .i64 0, .int .i64 0]) 2 16 Tryz.underlying24 hi0 hz0 hz1 hz2 rfl (by decide) _ _ _ rfl HO.out ⟨bl, ol, none⟩ m cL (scells ((gE l k).2.take m)) rfl ?c1 ?c2 ?c3 ?c4 ?c5 ?c6 ?_)
      case c1 => rw [scells_length, List.length_take, HM.out]; omega
      case c2 => exact HS.out.cells
      case c3 => exact scells_one' _
      case c4 => have := HV.out; unfold maxLen; omega
      case c5 => have := HV.out; omega
      case c6 => exact hx.size
      intro v' w1 hown' hgrow _
      have hO' : OwnS w1 w.heap.size v' (verts (l.take (k + 1))) := by
        rw [verts_succ hkl, HD.out]
        unfold OwnS
        rw [scells_append, List.length_append, List.length_take, HM.out, show min m (m + 1) = m from by omega]
        exact hown'
      have hx' : Ext w w1 := hx.grown hgrow (fun g hg => (World.ownsRow.lt HO.out g hg).1)
      have HO' := Lib.hid hO'; clear hO' hown' hgrow
      go_wp2_with fail
      go_roundw
      case rel => exact ⟨k + 1, by omega, by go_num, HO'.out, hx'⟩
      case measure => simp [intOf]; omega
    · go_wp2_with fail
      go_ret
      exact ⟨_, rfl, by
        have h := HO.out
        rw [List.take_of_length_le (by rw [HL.out]; omega)] at h
        exact h, hx⟩
set_option maxRecDepth 100000 in
set_option maxHeartbeats 1600000 in
theorem rocheck_any (A : Option Addr) (n c : Nat) (l : List Edge) (w : World) (ha : EdgesAt w A l) (hl : l.length = n) :
    Calls Tryz.prog 33 #[.slice A n c] w fun e w' => e = .returned (.int .i64 (ocheck l)) ∧ Ext w w' := by
  have HL := Lib.hid hl; clear hl
  have HA := Lib.hid ha; clear ha
  by_cases h16 : 16 < n
  · go_enter Tryz.func33, Tryz.ntmps33
    go_wp2_with fail
    go_ret
    exact ⟨ret_int (by unfold ocheck; rw [HL.out, if_pos h16]), Ext.refl _⟩
  by_cases h2 : n < 2
  · go_enter Tryz.func33, Tryz.ntmps33
    go_wp2_with fail
    go_ret
    exact ⟨ret_int (by unfold ocheck; rw [HL.out, if_neg (by omega), if_pos h2]), Ext.refl _⟩
  have hfail : ∀ k, k < n → firstE (edgeE l) k = 0 → ∀ e, edgeE l k = e → e ≠ 0 → e = ocheck l := fun k hk h0 e he hne => by
    have h := firstE_at (n := n) hk h0 (by rw [he]; exact hne)
    unfold ocheck
    rw [HL.out, if_neg (by omega), if_neg (by omega), h, he, if_pos hne]
  have HF := Lib.hid hfail; clear hfail
  go_enter Tryz.func33, Tryz.ntmps33
  go_wp2_with fail
  go_loopw [3] (fun i wr => ∃ k : Nat, k ≤ n ∧ i = .int .i64 k ∧ firstE (edgeE l) k = 0 ∧ Ext w wr) (fun i _ => n - (intOf i).toNat)
  case atStart => exact ⟨0, Nat.zero_le _, rfl, rfl, Ext.refl _⟩
  case round =>
    obtain ⟨k, hk, rfl, ht, hx⟩ := hrel
    have HT := Lib.hid ht; have HX := Lib.hid hx; clear ht hx
    by_cases hlt : k < n
    · have hkl : k < l.length := by rw [HL.out]; exact hlt
      obtain ⟨b, off, L, cL, hA, hc0, hc1, hs, hcl, hcm⟩ := (HA.out.ext HX.out).g hkl
      subst hA
      have HS := Lib.hid hs; clear hs
      go_wp2_with fail
      refine (rname_any (gE l k).1 _).mono ?_
      rintro e w1 ⟨rfl, rfl⟩
      cases hp : nameB (gE l k).1
      · have HP := Lib.hid hp; clear hp
        go_wp2_with fail
        go_ret
        exact ⟨ret_int (HF.out k hlt HT.out 1 (by unfold edgeE; rw [if_pos HP.out]) (by decide)), HX.out⟩
      have HP := Lib.hid hp; clear hp
      go_wp2_with fail
      refine (named_any _ n c k l (gE l k).1 _ (HA.out.ext HX.out) HL.out (by omega) (by omega)).mono ?_
      rintro e w1 ⟨rfl, rfl⟩
      obtain ⟨NB, hNB⟩ : ∃ NB, NB = allB (fun j => !((gE l j).1.toList == (gE l k).1.toList)) k := ⟨_, rfl⟩
      rw [← hNB]
      have HNB := Lib.hid hNB; clear hNB
      cases NB
      · go_wp2_with fail
        go_ret
        exact ⟨ret_int (HF.out k hlt HT.out 7 (by
          unfold edgeE
          rw [if_neg (by rw [HP.out]; decide), if_pos]
          exact HNB.out.symm) (by decide)), HX.out⟩
      go_wp2_with fail
      refine (rcheck_any L _ cL (gE l k).2 _ HS.out rfl).mono ?_
      rintro e w2 ⟨rfl, he2⟩
      have HE : Hid (edgeE l k = lcheck (gE l k).2) := by
        show edgeE l k = _
        unfold edgeE
        rw [if_neg (by rw [HP.out]; decide), if_neg (by
          have h := HNB.out
          unfold sameN
          rw [← h]; decide)]
      have HX2 := Lib.hid (HX.out.trans he2); clear he2 hc0 hc1
      by_cases hz : lcheck (gE l k).2 = 0
      · have hzb : (lcheck (gE l k).2 != 0) = false := by rw [hz]; rfl
        have HZ := Lib.hid hz; clear hz
        go_wp2_with fail
        go_roundw
        case rel => exact ⟨k + 1, by omega, by go_num, firstE_succ HT.out (by rw [HE.out, HZ.out]), HX2.out⟩
        case measure => simp [intOf]; omega
      · have hzb : (lcheck (gE l k).2 != 0) = true := by simp [hz]
        have HZ := Lib.hid hz; clear hz
        go_wp2_with fail
        go_ret
        exact ⟨ret_int (HF.out k hlt HT.out _ HE.out HZ.out), HX2.out⟩
    · obtain rfl : k = n := by omega
      clear hlt hk HF
      go_wp2_with fail
      go_loopw [5] (fun i wq => ∃ j : Nat, j ≤ k ∧ i = .int .i64 j ∧ allB (joinF l k) j = true ∧ Ext w wq) (fun i _ => k - (intOf i).toNat)
      case atStart => exact ⟨0, Nat.zero_le _, rfl, rfl, HX.out⟩
      case round =>
        clear HX
        obtain ⟨wq, rfl⟩ : ∃ wq : World, wq = wr := ⟨_, rfl⟩
        obtain ⟨j, hj, rfl, hs, hx⟩ := hrel
        have HJ := Lib.hid hs; clear hs
        by_cases hjk : j < k
        · have hm1 : (j + 1) % k < k := Nat.mod_lt _ (by omega)
          obtain ⟨b, off, L, cL, rfl, hc0, hc1, hs, hcl, hcm⟩ := (HA.out.ext hx).g (k := j) (by rw [HL.out]; exact hjk)
          obtain ⟨L', cL', hd0, hd1, hs', hcl', hcm'⟩ := (HA.out.ext hx).at1 (k := (j + 1) % k) (by rw [HL.out]; exact hm1)
          obtain ⟨hle, hle'⟩ := lens_of HT.out hjk
          obtain ⟨hre, hre'⟩ := lens_of HT.out hm1
          obtain ⟨m, hm⟩ : ∃ m, (gE l j).2.length = m + 1 := ⟨(gE l j).2.length - 1, by omega⟩
          obtain ⟨bl, ol, rfl, hl0, hl1⟩ := hs.g (k := m) (by omega)
          obtain ⟨br, or_, rfl, hr0, hr1⟩ := hs'.g (k := 0) (by omega)
          simp only [Nat.zero_mul, Nat.add_zero] at hr0 hr1
          rw [hm] at hc1 hcl hle hle'
          have HM := Lib.hid hm; clear hm hs hs'
          obtain ⟨mr, hmr⟩ : ∃ mr, (gE l ((j + 1) % k)).2.length = mr + 1 := ⟨(gE l ((j + 1) % k)).2.length - 1, by omega⟩
          rw [hmr] at hd1 hcl' hre hre'
          have HMR := Lib.hid hmr; clear hmr
          have hp0 := eqS_dec (gS (gE l j).2 m) (gS (gE l ((j + 1) % k)).2 0)
          have HQ : Hid (joinF l k j = eqS (gS (gE l j).2 m).1 (gS (gE l j).2 m).2 (gS (gE l ((j + 1) % k)).2 0).1 (gS (gE l ((j + 1) % k)).2 0).2) := by
            show joinF l k j = _
            unfold joinF
            rw [HM.out, hp0]; rfl
          clear hp0
          have hi0 : 0 ≤ (m : Int) := by omega
          have hi1 : (m : Int) < m + 1 := by omega
          have hi2 : (0 : Int) < (mr : Int) + 1 := by omega
          have hnN : ¬ k = 0 := by omega
          have HX := Lib.hid hx
          obtain ⟨E0, hE0⟩ : ∃ E0, E0 = eqS (gS (gE l j).2 m).1 (gS (gE l j).2 m).2 (gS (gE l ((j + 1) % k)).2 0).1 (gS (gE l ((j + 1) % k)).2 0).2 := ⟨_, rfl⟩
          have HE0 := Lib.hid hE0; clear hE0
          clear hx hcl hcm hcl' hcm' hle hre hre' hc0 hd0
          have hnz : ((k : Int) == 0) = false := by simp; omega
          have hnp : 0 < k := by omega
          obtain ⟨hq0, hq1, hq2⟩ := mod_idx j k 1 1 rfl (by omega)
          go_upto_region 18 with fail
          refine wp_region_quiet_lit (by kernel_rfl) (by kernel_rfl) ?_
          repeat (first | go_big_quiet_step (fail) | (go_big_quiet_want; go_simp; go_big_quiet_on))
          refine wpQuiet_nil ?_
          rintro _ ⟨nq, rfl⟩
          clear hq0 hq1 hq2 hnN
          have hi3 : IntKind.i64.wrap (m : Int) = m := IntWalk.i64_in _ (by omega)
          go_wp2_with fail
          refine wp_region_quiet_lit (by kernel_rfl) (by kernel_rfl) ?_
          repeat (first | go_big_quiet_step (fail) | (go_big_quiet_want; go_simp; go_big_quiet_on))
          refine wpQuiet_nil ?_
          rintro _ ⟨nq2, rfl⟩
          rw [← HE0.out]
          clear hi3
          cases E0
          · go_wp2_with fail
            go_ret
            exact ⟨ret_int (by
              unfold ocheck
              rw [HL.out, if_neg (by omega), if_neg (by omega), if_neg (by rw [HT.out]; simp), if_pos]
              exact allB_false hjk (HQ.out.trans HE0.out.symm)), by first | exact HX.out.drewN _ | exact (HX.out.drewN _).drewN _⟩
          · go_wp2_with fail
            go_roundw
            case rel => exact ⟨j + 1, by omega, by go_num, allB_succ HJ.out (HQ.out.trans HE0.out.symm), by first | exact HX.out.drewN _ | exact (HX.out.drewN _).drewN _⟩
            case measure => simp [intOf]; omega
        · obtain rfl : j = k := by omega
          clear hj hjk
          go_wp2_with fail
          refine (rvertices_any A _ c l _ (HA.out.ext hx) HL.out (by omega) (fun q hq => ⟨by have := lens_of HT.out hq; omega, (lens_of HT.out hq).2⟩)).mono ?_
          rintro e w2 ⟨v, rfl, hv, he2⟩
          obtain ⟨V, cv, rfl, hsv, hcv, hcv'⟩ := hv.slice
          have HV := Lib.hid hsv; clear hsv hv
          go_wp2_with fail
          refine (rpcheck_any V _ cv (verts l) _ HV.out rfl).mono ?_
          rintro e w3 ⟨rfl, he3⟩
          go_wp2_with fail
          go_ret
          exact ⟨ret_int (by
            unfold ocheck
            rw [HL.out, if_neg (by omega), if_neg (by omega), if_neg (by rw [HT.out]; simp), if_neg (by rw [HJ.out]; decide)]), (hx.trans he2).trans he3⟩
end Go.Proofs.YtliijigdbpmpaaaGreat
