/- the reference: garmentref21.Areas -/
import Derived.Deep.RegionHeld3
import Derived.Test.YtdmamobkgdpefaaGreatKRefN
/- the reference: garmentref11.Twice, Area2; garmentref20.Polygon; garmentref21.Areas -/
namespace Go.Proofs.YtdmamobkgdpefaaGreat
open Go.RowKit
theorem wrap_shift (s p q : Int) : wrap64 (wrap64 (s + p) - q) = wrap64 (s + wrap64 (p - q)) := by unfold wrap64; omega
set_option maxRecDepth 100000 in
set_option maxHeartbeats 1600000 in
theorem twice_any (A : Option Addr) (n c : Nat) (l : List Spot) (w : World) (ha : SpotsAt w A l) (hl : l.length = n) (hn : n ≤ 1000) :
    Calls Tryz.prog 61 #[.slice A n c] w fun e w' => e = .returned (.int .i64 (areaTo l n)) ∧ Ext w w' := by
  have HL := Lib.hid hl; clear hl
  have HA := Lib.hid ha; clear ha
  go_enter Tryz.func61, Tryz.ntmps61
  go_wp2_with fail
  go_loopw [3, 4] (fun s i wr => ∃ k : Nat, k ≤ n ∧ i = .int .i64 k ∧ s = .int .i64 (areaTo l k) ∧ Ext w wr) (fun _ i _ => n - (intOf i).toNat)
  case atStart => exact ⟨0, Nat.zero_le _, rfl, rfl, Ext.refl _⟩
  case round =>
    obtain ⟨i, hi, rfl, rfl, hx⟩ := hrel
    have HX := Lib.hid hx; clear hx
    by_cases hlt : i < n
    · have hil : i < l.length := by rw [HL.out]; exact hlt
      have hm1 : (i + 1) % n < n := Nat.mod_lt _ (by omega)
      obtain ⟨b, off, hA, hc0, hc1⟩ := (HA.out.ext HX.out).g hil
      subst hA
      obtain ⟨hd0, hd1⟩ := (HA.out.ext HX.out).at1 (k := (i + 1) % n) (by rw [HL.out]; exact hm1)
      have HS : Hid (areaTo l (i + 1) = wrap64 (areaTo l i + wrap64 (wrap64 ((gS l i).1 * (gS l ((i + 1) % n)).2) - wrap64 ((gS l i).2 * (gS l ((i + 1) % n)).1)))) := by
        show areaTo l (i + 1) = _
        rw [areaTo, HL.out]
      obtain ⟨A0, hA0⟩ : ∃ A0, A0 = gS l i := ⟨_, rfl⟩
      obtain ⟨B0, hB0⟩ : ∃ B0, B0 = gS l ((i + 1) % n) := ⟨_, rfl⟩
      rw [← hA0] at hc0 hc1
      rw [← hB0] at hd0 hd1
      rw [← hA0, ← hB0] at HS
      clear hA0 hB0
      obtain ⟨AT, hAT⟩ : ∃ AT, AT = areaTo l i := ⟨_, rfl⟩
      rw [← hAT] at HS ⊢
      clear hAT
      have hw1 : IntKind.i64.wrap ((i : Int) + 1) = (i : Int) + 1 := IntWalk.i64_in _ (by omega)
      have hnN : ¬ n = 0 := by omega
      have hnp : 0 < n := by omega
      obtain ⟨hq0, hq1, hq2⟩ := mod_idx i n 1 1 rfl (by omega)
      have hj3 : ((i : Int) + 1).tmod n = (((i + 1) % n : Nat) : Int) := by rw [Int.tmod_eq_emod_of_nonneg (by omega)]; omega
      go_upto_region 5 with fail
      go_cut [5, 6] from 7 to 37 (fun pa pb wc => ∃ ab bb, pa = .pointer (some ⟨ab, 0, none⟩) ∧ pb = .pointer (some ⟨bb, 0, none⟩) ∧ Blk 59 wc ab [.int .i64 A0.1, .int .i64 A0.2] ∧ Blk 59 wc bb [.int .i64 B0.1, .int .i64 B0.2] ∧ Ext wr wc)
      case first =>
        have keep : ∀ W1 : World, Ext wr W1 → (Ext wr W1 ∧ W1.cell? ⟨b, off + i * 2, none⟩ = some (.int .i64 A0.1) ∧ W1.cell? ⟨b, off + i * 2 + 1, none⟩ = some (.int .i64 A0.2) ∧ W1.cell? ⟨b, off + (i + 1) % n * 2, none⟩ = some (.int .i64 B0.1) ∧ W1.cell? ⟨b, off + (i + 1) % n * 2 + 1, none⟩ = some (.int .i64 B0.2)) := fun W1 hx => ⟨hx, hx.cell hc0, hx.cell hc1, hx.cell hd0, hx.cell hd1⟩
        have KEEP := Lib.hid keep; clear keep hc0 hc1 hd0 hd1
        go_region_held3 (fun W => Ext wr W ∧ W.cell? ⟨b, off + i * 2, none⟩ = some (.int .i64 A0.1) ∧ W.cell? ⟨b, off + i * 2 + 1, none⟩ = some (.int .i64 A0.2) ∧ W.cell? ⟨b, off + (i + 1) % n * 2, none⟩ = some (.int .i64 B0.1) ∧ W.cell? ⟨b, off + (i + 1) % n * 2 + 1, none⟩ = some (.int .i64 B0.2))
          (first | assumption | exact KEEP.out _ (by repeat (first | exact Ext.refl _ | apply Ext.alloc | apply Ext.drew)) | fail)
          (first | fail)
        all_goals
          go_wp2_with fail
          go_meet
        all_goals
          refine ⟨_, _, rfl, rfl, ?_, ?_, ?_⟩
          · first
              | exact ((Blk.new' rfl).ext ((Ext.refl _).alloc _)).ext ((Ext.refl _).drew)
              | exact (Blk.new' (by simp)).ext ((Ext.refl _).drew)
              | fail
          · first
              | exact ((Blk.new' rfl).ext ((Ext.refl _).alloc _)).ext ((Ext.refl _).drew)
              | exact (Blk.new' (by simp)).ext ((Ext.refl _).drew)
              | fail
          · exact (((Ext.refl _).alloc _).alloc _).drew
      case rest =>
        obtain ⟨ab, bb, hpa, hpb, hBa, hBb, hxc⟩ := hcut
        subst hpa hpb
        have HXC := Lib.hid (HX.out.trans hxc)
        obtain ⟨a0, a1⟩ := blk2 hBa
        obtain ⟨b0, b1⟩ := blk2 hBb
        clear hc0 hc1 hd0 hd1 hw1 hnN hj3 hq0 hq1 hq2 hBa hBb hxc
        go_wp2_with fail
        go_roundw
        case rel => exact ⟨i + 1, by omega, by go_num, by rw [HS.out, ← wrap_shift], HXC.out⟩
        case measure => simp [intOf]; omega
    · go_wp2_with fail
      go_ret
      exact ⟨ret_int (by obtain rfl : i = n := by omega
                         rfl), HX.out⟩
theorem rarea2_any (A : Option Addr) (n c : Nat) (l : List Spot) (w : World) (ha : SpotsAt w A l) (hl : l.length = n) :
    Calls Tryz.prog 35 #[.slice A n c] w fun e w' => e = .returned (.int .i64 (area2 l)) ∧ Ext w w' := by
  have HL := Lib.hid hl; clear hl
  have HA := Lib.hid ha; clear ha
  go_enter Tryz.func35, Tryz.ntmps35
  go_wp2_with fail
  refine (rpcheck_any A n c l w HA.out HL.out).mono ?_
  rintro e w1 ⟨rfl, he1⟩
  by_cases hz : pcheck l = 0
  rotate_left
  · have hzb : (pcheck l != 0) = true := by simp [hz]
    have HZ := Lib.hid hz; clear hz
    go_wp2_with fail
    go_ret
    exact ⟨ret_int (by unfold area2; rw [if_pos HZ.out]), he1⟩
  have HZ := Lib.hid hz
  rw [hz]; clear hz
  have hlen := pcheck_len HZ.out
  rw [HL.out] at hlen
  go_wp2_with fail
  refine (twice_any A n c l _ (HA.out.ext he1) HL.out (by omega)).mono ?_
  rintro e w2 ⟨rfl, he2⟩
  go_wp2_with fail
  go_ret
  exact ⟨ret_int (by unfold area2; rw [if_neg (by rw [HZ.out]; simp), HL.out]), he1.trans he2⟩
/- for outlines that are valid -/
def RetPoly (w : World) (es : List Edge) (e : Ending) (w' : World) : Prop := ∃ v, e = .returned (.tuple #[v, .int .i64 0]) ∧ OwnS w' w.heap.size v (verts es) ∧ Ext w w'
theorem rpolygon_ok (A : Option Addr) (n c : Nat) (l : List Edge) (w : World) (ha : EdgesAt w A l) (hl : l.length = n) (hz : ocheck l = 0) :
    Calls Tryz.prog 34 #[.slice A n c] w (RetPoly w l) := by
  have HL := Lib.hid hl; have HA := Lib.hid ha; have HZ := Lib.hid hz; clear hl ha hz
  obtain ⟨ho1, ho2, ho3⟩ := ocheck_ok HZ.out
  rw [HL.out] at ho1 ho2
  have HO3 := Lib.hid ho3; clear ho3
  go_enter Tryz.func34, Tryz.ntmps34
  go_wp2_with fail
  refine (rocheck_any A n c l _ HA.out HL.out).mono ?_
  rintro e w1 ⟨rfl, he1⟩
  rw [HZ.out]
  have HX1 := Lib.hid he1; clear he1
  go_wp2_with fail
  refine (rvertices_any A n c l _ (HA.out.ext HX1.out) HL.out (by omega) (fun q hq => ⟨by have := lens_of HO3.out (by rw [HL.out]; exact hq); omega, (lens_of HO3.out (by rw [HL.out]; exact hq)).2⟩)).mono ?_
  rintro e w2 ⟨v, rfl, hv, he2⟩
  have HV := Lib.hid hv; have HX2 := Lib.hid (HX1.out.trans he2); clear hv he2
  go_wp2_with fail
  go_ret2
  exact ⟨v, rfl, HV.out.base_le HX1.out.size, HX2.out⟩
end Go.Proofs.YtdmamobkgdpefaaGreat
namespace Go.Proofs.YtdmamobkgdpefaaGreat
open Go.RowKit
set_option maxRecDepth 100000 in
set_option maxHeartbeats 1600000 in
theorem rareas_any (nm : ByteArray) (AE AN AC AW AM : Option Addr) (nE cE nN cN nC cC nW cW nM cM : Nat) (gr : Int) (mt : Bool) (es : List Edge) (cs : List Spot) (ms : List Int) (w : World)
    (hE : EdgesAt w AE es) (hlE : es.length = nE) (hnE : nE ≤ 1000) (hC : SpotsAt w AC cs) (hlC : cs.length = nC) (hnC : nC ≤ 1000) (hM : IntsAt w AM ms) (hlM : ms.length = nM) (hnM : nM ≤ 1000) :
    Calls Tryz.prog 13 #[.agg #[.string nm, .slice AE nE cE, .int .i64 gr, .slice AN nN cN, .slice AC nC cC, .slice AW nW cW, .bool mt], .slice AM nM cM] w (RetA w es cs ms) := by
  have HLE := Lib.hid hlE; clear hlE
  have HLC := Lib.hid hlC; clear hlC
  have HLM := Lib.hid hlM; clear hlM
  have HE := Lib.hid hE; clear hE
  have HC := Lib.hid hC; clear hC
  have HM := Lib.hid hM; clear hM
  obtain ⟨i0, hi0, hz0, hz1, hz2⟩ := info_parts int_info
  go_enter Tryz.func13, Tryz.ntmps13
  go_wp2_with fail
  refine wp_at fun W0 hW0 => ?_
  have hx0 : Ext w W0 := by rw [hW0]; exact (Ext.refl _).alloc _
  obtain ⟨b0, b1, b2, b3, b4, b5, b6⟩ : W0.cell? ⟨w.heap.size, 0, none⟩ = some (.string nm) ∧ W0.cell? ⟨w.heap.size, 1, none⟩ = some (.slice AE nE cE) ∧ W0.cell? ⟨w.heap.size, 2, none⟩ = some (.int .i64 gr) ∧ W0.cell? ⟨w.heap.size, 3, none⟩ = some (.slice AN nN cN) ∧ W0.cell? ⟨w.heap.size, 4, none⟩ = some (.slice AC nC cC) ∧ W0.cell? ⟨w.heap.size, 5, none⟩ = some (.slice AW nW cW) ∧ W0.cell? ⟨w.heap.size, 6, none⟩ = some (.bool mt) := by rw [hW0]; simp [go_sem]
  have hw0 : w.heap.size < W0.heap.size := cell_lt b0
  clear hW0
  go_loopw [6, 7] (fun v i wr => ∃ k : Nat, k ≤ nM ∧ i = .int .i64 k ∧ firstE (fun i => gradedR es cs (gI ms i)) k = 0 ∧ OwnI wr W0.heap.size v ((ms.take k).map (areaAt es cs)) ∧ Ext W0 wr) (fun _ i _ => nM - (intOf i).toNat)
  case atStart => exact ⟨0, Nat.zero_le _, rfl, rfl, OwnI.nil _ _, Ext.refl _⟩
  case round =>
    obtain ⟨k, hk, rfl, ht, ho, hx⟩ := hrel
    have HT := Lib.hid ht; clear ht
    obtain ⟨LK, hLK⟩ : ∃ LK, LK = (ms.take k).map (areaAt es cs) := ⟨_, rfl⟩
    rw [← hLK] at ho
    have HLKE := Lib.hid hLK; clear hLK
    have HO := Lib.hid ho; clear ho
    have hxw : Ext w wr := hx0.trans hx
    by_cases hlt : k < nM
    · have hkl : k < ms.length := by rw [HLM.out]; exact hlt
      obtain ⟨b, off, rfl, hc0⟩ := (HM.out.ext hxw).g hkl
      have c0 := hx.cell b0
      have c1 := hx.cell b1
      have c2 := hx.cell b2
      have c3 := hx.cell b3
      have c4 := hx.cell b4
      have c5 := hx.cell b5
      have c6 := hx.cell b6
      have keep : ∀ W1 : World, Ext wr W1 → (Ext wr W1 ∧ W1.cell? ⟨w.heap.size, 0, none⟩ = some (.string nm) ∧ W1.cell? ⟨w.heap.size, 1, none⟩ = some (.slice AE nE cE) ∧ W1.cell? ⟨w.heap.size, 2, none⟩ = some (.int .i64 gr) ∧ W1.cell? ⟨w.heap.size, 3, none⟩ = some (.slice AN nN cN) ∧ W1.cell? ⟨w.heap.size, 4, none⟩ = some (.slice AC nC cC) ∧ W1.cell? ⟨w.heap.size, 5, none⟩ = some (.slice AW nW cW) ∧ W1.cell? ⟨w.heap.size, 6, none⟩ = some (.bool mt) ∧ W1.cell? ⟨b, off + k, none⟩ = some (.int .i64 (gI ms k))) := fun W1 hx => ⟨hx, hx.cell c0, hx.cell c1, hx.cell c2, hx.cell c3, hx.cell c4, hx.cell c5, hx.cell c6, hx.cell hc0⟩
      have KEEP := Lib.hid keep; clear keep
      have getw : ∀ W : World, (Ext wr W ∧ W.cell? ⟨w.heap.size, 0, none⟩ = some (.string nm) ∧ W.cell? ⟨w.heap.size, 1, none⟩ = some (.slice AE nE cE) ∧ W.cell? ⟨w.heap.size, 2, none⟩ = some (.int .i64 gr) ∧ W.cell? ⟨w.heap.size, 3, none⟩ = some (.slice AN nN cN) ∧ W.cell? ⟨w.heap.size, 4, none⟩ = some (.slice AC nC cC) ∧ W.cell? ⟨w.heap.size, 5, none⟩ = some (.slice AW nW cW) ∧ W.cell? ⟨w.heap.size, 6, none⟩ = some (.bool mt) ∧ W.cell? ⟨b, off + k, none⟩ = some (.int .i64 (gI ms k))) → Ext wr W := fun W h => h.1
      have GETW := Lib.hid getw; clear getw
      have HXW := Lib.hid hxw
      have hknat : (k : Int) < nM := by omega
      go_wp2_with fail
      clear c0 c1 c2 c3 c4 c5 c6 hc0
      go_region_held3 (fun W => Ext wr W ∧ W.cell? ⟨w.heap.size, 0, none⟩ = some (.string nm) ∧ W.cell? ⟨w.heap.size, 1, none⟩ = some (.slice AE nE cE) ∧ W.cell? ⟨w.heap.size, 2, none⟩ = some (.int .i64 gr) ∧ W.cell? ⟨w.heap.size, 3, none⟩ = some (.slice AN nN cN) ∧ W.cell? ⟨w.heap.size, 4, none⟩ = some (.slice AC nC cC) ∧ W.cell? ⟨w.heap.size, 5, none⟩ = some (.slice AW nW cW) ∧ W.cell? ⟨w.heap.size, 6, none⟩ = some (.bool mt) ∧ W.cell? ⟨b, off + k, none⟩ = some (.int .i64 (gI ms k)))
        (first | (with_reducible assumption) | (with_reducible exact KEEP.out _ (Ext.drew (Ext.refl _))) | (with_reducible exact KEEP.out _ hxr) | fail)
        (first
          | (go_at_call 10; refine (rgraded_any nm AE AN AC AW nE cE nN cN nC cC nW cW gr (gI ms k) mt es cs _ (HE.out.ext (HXW.out.trans (GETW.out _ ‹_›))) HLE.out (HC.out.ext (HXW.out.trans (GETW.out _ ‹_›))) HLC.out hnE hnC).mono ?_; rintro e w1 ⟨v1, rfl, hv1, hv1', he1⟩; have hxr := (GETW.out _ ‹_›).trans he1)
          | fail)
      clear he1
      have he1 : Ext wr w1 := hxr
      clear hxr
      have HFA : Hid (gradedR es cs (gI ms k) ≠ 0 → areasE es cs ms = gradedR es cs (gI ms k)) := fun hne => firstE_at hkl HT.out hne
      by_cases hz : gradedR es cs (gI ms k) = 0
      rotate_left
      · have hzb : (gradedR es cs (gI ms k) != 0) = true := by simp [hz]
        have HZ := Lib.hid hz; clear hz hv1 hv1'
        go_wp2_with fail
        go_ret2
        exact ⟨_, by rw [HFA.out HZ.out]; rfl, fun h => absurd ((HFA.out HZ.out).symm.trans h) HZ.out, fun _ => rfl, hxw.trans he1⟩
      have HZ := Lib.hid hz
      have hv := hv1 hz
      rw [hz]; clear hz hv1 hv1'
      obtain ⟨A1, cap1, rfl, hE1, hcap1, hcap1'⟩ := hv.slice
      have HE1 := Lib.hid hE1; clear hE1 hv
      go_wp2_with fail
      refine (rpolygon_ok A1 _ cap1 (gradedE es cs (gI ms k)) _ HE1.out rfl (gradedR_zero HZ.out)).mono ?_
      rintro e w2 ⟨v2, rfl, hv2, he2⟩
      obtain ⟨A2, cap2, rfl, hS2, hcap2, hcap2'⟩ := hv2.slice
      have HS2 := Lib.hid hS2; clear hS2 hv2
      go_wp2_with fail
      refine (rarea2_any A2 _ cap2 (verts (gradedE es cs (gI ms k))) _ HS2.out rfl).mono ?_
      rintro e w3 ⟨rfl, he3⟩
      have hx3 : Ext wr w3 := (he1.trans he2).trans he3
      clear he1 he2 he3 HE1 HS2
      have HAA : Hid (areaAt es cs (gI ms k) = absA (area2 (verts (gradedE es cs (gI ms k))))) := rfl
      generalize area2 (verts (gradedE es cs (gI ms k))) = a at *
      have hbb : W0.heap.size ≤ w3.heap.size := Nat.le_trans hx.size hx3.size
      have hlk : LK.length ≤ 1000 := by rw [HLKE.out, List.length_map, List.length_take, HLM.out]; omega
      have HLK := Lib.hid hlk; clear hlk
      by_cases hm : a < wrap64 (-a)
      · have hmx : max a (wrap64 (-a)) = wrap64 (-a) := by omega
        have HA1 : Hid (absA a = wrap64 (-a)) := by show absA a = _; unfold absA; rw [if_pos hm]
        go_wp2_with (at_builtin; refine wpList_append_own _ rfl (.tmp 38) (.tmp 43) 25 rfl W0.heap.size 3 i0 (.int .i64 0) 1 8 Tryz.underlying25 hi0 hz0 hz1 hz2 rfl (by decide) _ _ _ rfl (World.ownsRow.alloc (own_ext HO.out hx3) _) ⟨w3.heap.size, 0, none⟩ 1 1 [.int .i64 (wrap64 (-a))] rfl ?c1 ?c2 ?c3 ?c4 ?c5 ?c6 ?_)
        case c1 => rfl
        case c2 => exact World.news_of_block (cs := #[.int .i64 (wrap64 (-a))]) (t := 3) (fr := (0, 0)) (heap_alloc_new w3 _)
        case c3 => simp [Value.oneCell']
        case c4 => have := HLK.out; unfold maxLen; omega
        case c5 => have := HLK.out; omega
        case c6 => simp; omega
        intro v' w4 hown' hgrow _
        have hO' : OwnI w4 W0.heap.size v' ((ms.take (k + 1)).map (areaAt es cs)) := by
          rw [take_succ _ _ hkl, List.map_append, ← HLKE.out]
          unfold OwnI icells
          rw [List.length_append, List.map_append]
          have e : areaAt es cs ms[k] = wrap64 (-a) := by rw [← gI_eq hkl, HAA.out, HA1.out]
          simp only [List.map_cons, List.map_nil, e]
          exact hown'
        have hx' : Ext W0 w4 := ((hx.trans hx3).alloc _).grown hgrow (fun g hg => (World.ownsRow.lt HO.out g hg).1)
        have HO' := Lib.hid hO'; clear hO' hown' hgrow
        go_wp2_with fail
        go_roundw
        case rel => exact ⟨k + 1, by omega, by go_num, firstE_succ HT.out HZ.out, HO'.out, hx'⟩
        case measure => simp [intOf]; omega
      · have hmx : max a (wrap64 (-a)) = a := by omega
        have HA1 : Hid (absA a = a) := by show absA a = _; unfold absA; rw [if_neg hm]
        go_wp2_with (at_builtin; refine wpList_append_own _ rfl (.tmp 38) (.tmp 43) 25 rfl W0.heap.size 3 i0 (.int .i64 0) 1 8 Tryz.underlying25 hi0 hz0 hz1 hz2 rfl (by decide) _ _ _ rfl (World.ownsRow.alloc (own_ext HO.out hx3) _) ⟨w3.heap.size, 0, none⟩ 1 1 [.int .i64 (a)] rfl ?c1 ?c2 ?c3 ?c4 ?c5 ?c6 ?_)
        case c1 => rfl
        case c2 => exact World.news_of_block (cs := #[.int .i64 (a)]) (t := 3) (fr := (0, 0)) (heap_alloc_new w3 _)
        case c3 => simp [Value.oneCell']
        case c4 => have := HLK.out; unfold maxLen; omega
        case c5 => have := HLK.out; omega
        case c6 => simp; omega
        intro v' w4 hown' hgrow _
        have hO' : OwnI w4 W0.heap.size v' ((ms.take (k + 1)).map (areaAt es cs)) := by
          rw [take_succ _ _ hkl, List.map_append, ← HLKE.out]
          unfold OwnI icells
          rw [List.length_append, List.map_append]
          have e : areaAt es cs ms[k] = a := by rw [← gI_eq hkl, HAA.out, HA1.out]
          simp only [List.map_cons, List.map_nil, e]
          exact hown'
        have hx' : Ext W0 w4 := ((hx.trans hx3).alloc _).grown hgrow (fun g hg => (World.ownsRow.lt HO.out g hg).1)
        have HO' := Lib.hid hO'; clear hO' hown' hgrow
        go_wp2_with fail
        go_roundw
        case rel => exact ⟨k + 1, by omega, by go_num, firstE_succ HT.out HZ.out, HO'.out, hx'⟩
        case measure => simp [intOf]; omega
    · go_wp2_with fail
      go_ret2
      have hE0 : areasE es cs ms = 0 := by
        unfold areasE; rw [HLM.out]
        obtain rfl : k = nM := by omega
        exact HT.out
      refine ⟨_, by rw [hE0]; rfl, fun _ => ?_, fun h => absurd hE0 h, hxw⟩
      have h := HO.out
      rw [HLKE.out, List.take_of_length_le (by rw [HLM.out]; omega)] at h
      refine ⟨h.1, ?_⟩
      rcases h.2 with h0 | ⟨g, cap, cur, hv, hb, r⟩
      · exact .inl h0
      · exact .inr ⟨g, cap, cur, hv, Nat.le_trans (Nat.le_of_lt hw0) hb, r⟩
end Go.Proofs.YtdmamobkgdpefaaGreat
