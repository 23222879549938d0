/- grade.Areas -/
import Derived.Test.YtdmamobkgdpefaaGreatKGraded
import Derived.Test.YtdmamobkgdpefaaGreatKOwnI
/- outline.Polygon, polygon.area, polygon.Area2 -/
namespace Go.Proofs.YtdmamobkgdpefaaGreat
open Go.RowKit
def RetP (w : World) (es : List Edge) (e : Ending) (w' : World) : Prop :=
  ∃ v, e = .returned (.tuple #[v, .int .i64 (ocheck es)]) ∧ (ocheck es = 0 → OwnS w' w.heap.size v (verts es)) ∧ (ocheck es ≠ 0 → v = .slice none 0 0) ∧ Ext w w'
theorem polygon_any (A : Option Addr) (n c : Nat) (l : List Edge) (w : World) (ha : EdgesAt w A l) (hl : l.length = n) (hn : n ≤ c) (hc : c ≤ 9223372036854775807) :
    Calls Tryz.prog 32 #[.slice A n c] w (RetP w l) := by
  have HL := Lib.hid hl; clear hl
  have HA := Lib.hid ha; clear ha
  go_enter Tryz.func32, Tryz.ntmps32
  go_wp2_with fail
  refine (ocheck_any A n c l w HA.out HL.out hn hc).mono ?_
  rintro e w1 ⟨rfl, he1⟩
  by_cases hz : ocheck l = 0
  rotate_left
  · have hzb : (ocheck l != 0) = true := by simp [hz]
    have HZ := Lib.hid hz; clear hz
    go_wp2_with fail
    go_ret2
    exact ⟨_, rfl, fun h => absurd h HZ.out, fun _ => rfl, he1⟩
  have HZ := Lib.hid hz
  have hzb : (ocheck l != 0) = false := by rw [hz]; rfl
  rw [hz]; clear hz hzb
  obtain ⟨h2, h16, hfe⟩ := ocheck_ok HZ.out
  rw [HL.out] at h2 h16 hfe
  have HF := Lib.hid hfe; clear hfe
  go_wp2_with fail
  refine (vertices_any A n c l _ (HA.out.ext he1) HL.out (by omega) (fun q hq => ⟨by have := lens_of HF.out hq; omega, (lens_of HF.out hq).2⟩)).mono ?_
  rintro e w2 ⟨v, rfl, hv, he2⟩
  go_wp2_with fail
  go_ret2
  refine ⟨_, by rw [HZ.out]; rfl, fun _ => OwnS.base_le hv he1.size, fun h => absurd HZ.out h, he1.trans he2⟩

def areaTo (l : List Spot) : Nat → Int
  | 0 => 0
  | k + 1 => wrap64 (areaTo l k + wrap64 (wrap64 ((gS l k).1 * (gS l ((k + 1) % l.length)).2) - wrap64 ((gS l k).2 * (gS l ((k + 1) % l.length)).1)))
set_option maxHeartbeats 800000 in
theorem area_any (A : Option Addr) (n c : Nat) (l : List Spot) (w : World) (ha : SpotsAt w A l) (hl : l.length = n) (hn : n ≤ 1000) :
    Calls Tryz.prog 60 #[.slice A n c] w fun e w' => e = .returned (.int .i64 (areaTo l n)) ∧ Ext w w' := by
  have HL := Lib.hid hl; clear hl
  have HA := Lib.hid ha; clear ha
  go_enter Tryz.func60, Tryz.ntmps60
  go_wp2_with fail
  go_loopw [3, 9] (fun s i wr => ∃ k : Nat, k ≤ n ∧ i = .int .i64 k ∧ s = .int .i64 (areaTo l k) ∧ Ext w wr) (fun _ i _ => n - (intOf i).toNat)
  case atStart => exact ⟨0, Nat.zero_le _, rfl, rfl, Ext.refl _⟩
  case round =>
    obtain ⟨k, hk, rfl, rfl, hx⟩ := hrel
    by_cases hlt : k < n
    · have hm1 : (k + 1) % n < n := Nat.mod_lt _ (by omega)
      obtain ⟨b, off, rfl, hc0, hc1⟩ := (HA.out.ext hx).g (k := k) (by rw [HL.out]; exact hlt)
      obtain ⟨hd0, hd1⟩ := (HA.out.ext hx).at1 (k := (k + 1) % n) (by rw [HL.out]; exact hm1)
      have hbl : b < wr.heap.size := cell_lt hc0
      have hbl1 : b < wr.heap.size + 1 := by omega
      obtain ⟨hj0, hj1, hj2⟩ := mod_idx k n 1 1 rfl (by omega)
      have HS : Hid (areaTo l (k + 1) = wrap64 (areaTo l k + wrap64 (wrap64 ((gS l k).1 * (gS l ((k + 1) % n)).2) - wrap64 ((gS l k).2 * (gS l ((k + 1) % n)).1)))) := by
        show areaTo l (k + 1) = _
        rw [areaTo, HL.out]
      go_wp2_with fail
      go_roundw
      case rel => exact ⟨k + 1, by omega, by go_num, by rw [HS.out], (hx.alloc _).alloc _⟩
      case measure => simp [intOf]; omega
    · go_wp2_with fail
      go_ret
      exact ⟨ret_int (by obtain rfl : k = n := by omega
                         rfl), hx⟩
def area2 (l : List Spot) : Int := if pcheck l ≠ 0 then 0 else areaTo l l.length
theorem pcheck_len {l : List Spot} (h : pcheck l = 0) : 3 ≤ l.length ∧ l.length ≤ 40 := by
  unfold pcheck at h
  split at h
  · cases h
  · split at h
    · cases h
    · omega
theorem area2_any (A : Option Addr) (n c : Nat) (l : List Spot) (w : World) (ha : SpotsAt w A l) (hl : l.length = n) (hn : n ≤ c) :
    Calls Tryz.prog 33 #[.slice A n c] w fun e w' => e = .returned (.int .i64 (area2 l)) ∧ Ext w w' := by
  have HL := Lib.hid hl; clear hl
  have HA := Lib.hid ha; clear ha
  go_enter Tryz.func33, Tryz.ntmps33
  go_wp2_with fail
  refine (pcheck_any A n c l w HA.out HL.out hn).mono ?_
  rintro e w1 ⟨rfl, he1⟩
  by_cases hz : pcheck l = 0
  rotate_left
  · have hzb : (pcheck l != 0) = true := by simp [hz]
    have HZ := Lib.hid hz; clear hz
    go_wp2_with fail
    go_ret
    exact ⟨ret_int (by unfold area2; rw [if_pos HZ.out]), he1⟩
  have HZ := Lib.hid hz
  rw [hz]; clear hz
  have hlen := pcheck_len HZ.out
  rw [HL.out] at hlen
  go_wp2_with fail
  refine (area_any A n c l _ (HA.out.ext he1) HL.out (by omega)).mono ?_
  rintro e w2 ⟨rfl, he2⟩
  go_wp2_with fail
  go_ret
  exact ⟨ret_int (by unfold area2; rw [if_neg (by rw [HZ.out]; simp), HL.out]), he1.trans he2⟩
end Go.Proofs.YtdmamobkgdpefaaGreat
namespace Go.Proofs.YtdmamobkgdpefaaGreat
open Go.RowKit
def absA (a : Int) : Int := if a < wrap64 (-a) then wrap64 (-a) else a
def areaAt (es : List Edge) (cs : List Spot) (m : Int) : Int := absA (area2 (verts (gradedE es cs m)))
def areasE (es : List Edge) (cs : List Spot) (ms : List Int) : Int := firstE (fun i => gradedR es cs (gI ms i)) ms.length
def RetA (w : World) (es : List Edge) (cs : List Spot) (ms : List Int) (e : Ending) (w' : World) : Prop :=
  ∃ v, e = .returned (.tuple #[v, .int .i64 (areasE es cs ms)]) ∧ (areasE es cs ms = 0 → OwnI w' w.heap.size v (ms.map (areaAt es cs))) ∧ (areasE es cs ms ≠ 0 → v = .slice none 0 0) ∧ Ext w w'
theorem gradedR_zero {es : List Edge} {cs : List Spot} {m : Int} (h : gradedR es cs m = 0) : ocheck (gradedE es cs m) = 0 := by
  unfold gradedR at h
  split at h
  · cases h
  · split at h
    · cases h
    · split at h
      · cases h
      · split at h
        · rename_i h1; exact absurd h h1
        · exact h
set_option maxRecDepth 100000 in
set_option maxHeartbeats 1600000 in
theorem areas_any (nm : ByteArray) (AE AN AC AW AM : Option Addr) (nE cE nN cN nC cC nW cW nM cM : Nat) (gr : Int) (mt : Bool) (es : List Edge) (cs : List Spot) (ms : List Int) (w : World)
    (hE : EdgesAt w AE es) (hlE : es.length = nE) (hcE : nE ≤ cE) (hcE' : cE ≤ 9223372036854775807) (hC : SpotsAt w AC cs) (hlC : cs.length = nC) (hnC : nC ≤ 9223372036854775807) (hM : IntsAt w AM ms) (hlM : ms.length = nM) (hnM : nM ≤ 1000) :
    Calls Tryz.prog 12 #[.agg #[.string nm, .slice AE nE cE, .int .i64 gr, .slice AN nN cN, .slice AC nC cC, .slice AW nW cW, .bool mt], .slice AM nM cM] w (RetA w es cs ms) := by
  have HLE := Lib.hid hlE; clear hlE
  have HLC := Lib.hid hlC; clear hlC
  have HLM := Lib.hid hlM; clear hlM
  have HE := Lib.hid hE; clear hE
  have HC := Lib.hid hC; clear hC
  have HM := Lib.hid hM; clear hM
  obtain ⟨i0, hi0, hz0, hz1, hz2⟩ := info_parts int_info
  go_enter Tryz.func12, Tryz.ntmps12
  go_wp2_with fail
  refine wp_at fun W0 hW0 => ?_
  have hx0 : Ext w W0 := by rw [hW0]; exact (Ext.refl _).alloc _
  obtain ⟨b0, b1, b2, b3, b4, b5, b6⟩ : W0.cell? ⟨w.heap.size, 0, none⟩ = some (.string nm) ∧ W0.cell? ⟨w.heap.size, 1, none⟩ = some (.slice AE nE cE) ∧ W0.cell? ⟨w.heap.size, 2, none⟩ = some (.int .i64 gr) ∧ W0.cell? ⟨w.heap.size, 3, none⟩ = some (.slice AN nN cN) ∧ W0.cell? ⟨w.heap.size, 4, none⟩ = some (.slice AC nC cC) ∧ W0.cell? ⟨w.heap.size, 5, none⟩ = some (.slice AW nW cW) ∧ W0.cell? ⟨w.heap.size, 6, none⟩ = some (.bool mt) := by rw [hW0]; simp [go_sem]
  have hw0 : w.heap.size < W0.heap.size := cell_lt b0
  clear hW0
  go_loopw [6, 15] (fun v i wr => ∃ k : Nat, k ≤ nM ∧ i = .int .i64 k ∧ firstE (fun i => gradedR es cs (gI ms i)) k = 0 ∧ OwnI wr W0.heap.size v ((ms.take k).map (areaAt es cs)) ∧ Ext W0 wr) (fun _ i _ => nM - (intOf i).toNat)
  case atStart => exact ⟨0, Nat.zero_le _, rfl, rfl, OwnI.nil _ _, Ext.refl _⟩
  case round =>
    obtain ⟨k, hk, rfl, ht, ho, hx⟩ := hrel
    have HT := Lib.hid ht; clear ht
    obtain ⟨LK, hLK⟩ : ∃ LK, LK = (ms.take k).map (areaAt es cs) := ⟨_, rfl⟩
    rw [← hLK] at ho
    have HLKE := Lib.hid hLK; clear hLK
    have HO := Lib.hid ho; clear ho
    have hxw : Ext w wr := hx0.trans hx
    by_cases hlt : k < nM
    · have hkl : k < ms.length := by rw [HLM.out]; exact hlt
      obtain ⟨b, off, rfl, hc0⟩ := (HM.out.ext hxw).g hkl
      have c0 := hx.cell b0
      have c1 := hx.cell b1
      have c2 := hx.cell b2
      have c3 := hx.cell b3
      have c4 := hx.cell b4
      have c5 := hx.cell b5
      have c6 := hx.cell b6
      go_wp2_with fail
      refine (graded_any nm AE AN AC AW nE cE nN cN nC cC nW cW gr (gI ms k) mt es cs _ (HE.out.ext hxw) HLE.out hcE hcE' (HC.out.ext hxw) HLC.out hnC).mono ?_
      rintro e w1 ⟨v1, rfl, hv1, hv1', he1⟩
      clear c0 c1 c2 c3 c4 c5 c6 hc0
      have HFA : Hid (gradedR es cs (gI ms k) ≠ 0 → areasE es cs ms = gradedR es cs (gI ms k)) := fun hne => firstE_at hkl HT.out hne
      by_cases hz : gradedR es cs (gI ms k) = 0
      rotate_left
      · have hzb : (gradedR es cs (gI ms k) != 0) = true := by simp [hz]
        have HZ := Lib.hid hz; clear hz hv1 hv1'
        go_wp2_with fail
        go_ret2
        exact ⟨_, by rw [HFA.out HZ.out]; rfl, fun h => absurd ((HFA.out HZ.out).symm.trans h) HZ.out, fun _ => rfl, hxw.trans he1⟩
      have HZ := Lib.hid hz
      have hv := hv1 hz
      rw [hz]; clear hz hv1 hv1'
      obtain ⟨A1, cap1, rfl, hE1, hcap1, hcap1'⟩ := hv.slice
      have HE1 := Lib.hid hE1; clear hE1 hv
      go_wp2_with fail
      refine (polygon_any A1 _ cap1 (gradedE es cs (gI ms k)) _ HE1.out rfl hcap1 hcap1').mono ?_
      rintro e w2 ⟨v2, rfl, hv2, _, he2⟩
      have hz2' := gradedR_zero HZ.out
      have hv2 := hv2 hz2'
      rw [hz2']; clear hz2'
      obtain ⟨A2, cap2, rfl, hS2, hcap2, hcap2'⟩ := hv2.slice
      have HS2 := Lib.hid hS2; clear hS2 hv2
      go_wp2_with fail
      refine (area2_any A2 _ cap2 (verts (gradedE es cs (gI ms k))) _ HS2.out rfl hcap2).mono ?_
      rintro e w3 ⟨rfl, he3⟩
      have hx3 : Ext wr w3 := (he1.trans he2).trans he3
      clear he1 he2 he3 HE1 HS2
      have HAA : Hid (areaAt es cs (gI ms k) = absA (area2 (verts (gradedE es cs (gI ms k))))) := rfl
      generalize area2 (verts (gradedE es cs (gI ms k))) = a at *
      have hbb : W0.heap.size ≤ w3.heap.size := Nat.le_trans hx.size hx3.size
      have hlk : LK.length ≤ 1000 := by rw [HLKE.out, List.length_map, List.length_take, HLM.out]; omega
      have HLK := Lib.hid hlk; clear hlk
      by_cases hm : a < wrap64 (-a)
      · have HA1 : Hid (absA a = wrap64 (-a)) := by show absA a = _; unfold absA; rw [if_pos hm]
        go_wp2_with (at_builtin; refine wpList_append_own _ rfl (.tmp 38) (.tmp 43) 25 rfl W0.heap.size 3 i0 (.int .i64 0) 1 8 Tryz.underlying25 hi0 hz0 hz1 hz2 rfl (by decide) _ _ _ rfl (World.ownsRow.alloc (own_ext HO.out hx3) _) ⟨w3.heap.size, 0, none⟩ 1 1 [.int .i64 (wrap64 (-a))] rfl ?c1 ?c2 ?c3 ?c4 ?c5 ?c6 ?_)
        case c1 => rfl
        case c2 => exact World.news_of_block (cs := #[.int .i64 (wrap64 (-a))]) (t := 3) (fr := (0, 0)) (heap_alloc_new w3 _)
        case c3 => simp [Value.oneCell']
        case c4 => have := HLK.out; unfold maxLen; omega
        case c5 => have := HLK.out; omega
        case c6 => simp; omega
        intro v' w4 hown' hgrow _
        have hO' : OwnI w4 W0.heap.size v' ((ms.take (k + 1)).map (areaAt es cs)) := by
          rw [take_succ _ _ hkl, List.map_append, ← HLKE.out]
          unfold OwnI icells
          rw [List.length_append, List.map_append]
          have e : areaAt es cs ms[k] = wrap64 (-a) := by rw [← gI_eq hkl, HAA.out, HA1.out]
          simp only [List.map_cons, List.map_nil, e]
          exact hown'
        have hx' : Ext W0 w4 := ((hx.trans hx3).alloc _).grown hgrow (fun g hg => (World.ownsRow.lt HO.out g hg).1)
        have HO' := Lib.hid hO'; clear hO' hown' hgrow
        go_wp2_with fail
        go_roundw
        case rel => exact ⟨k + 1, by omega, by go_num, firstE_succ HT.out HZ.out, HO'.out, hx'⟩
        case measure => simp [intOf]; omega
      · have HA1 : Hid (absA a = a) := by show absA a = _; unfold absA; rw [if_neg hm]
        go_wp2_with (at_builtin; refine wpList_append_own _ rfl (.tmp 38) (.tmp 43) 25 rfl W0.heap.size 3 i0 (.int .i64 0) 1 8 Tryz.underlying25 hi0 hz0 hz1 hz2 rfl (by decide) _ _ _ rfl (World.ownsRow.alloc (own_ext HO.out hx3) _) ⟨w3.heap.size, 0, none⟩ 1 1 [.int .i64 (a)] rfl ?c1 ?c2 ?c3 ?c4 ?c5 ?c6 ?_)
        case c1 => rfl
        case c2 => exact World.news_of_block (cs := #[.int .i64 (a)]) (t := 3) (fr := (0, 0)) (heap_alloc_new w3 _)
        case c3 => simp [Value.oneCell']
        case c4 => have := HLK.out; unfold maxLen; omega
        case c5 => have := HLK.out; omega
        case c6 => simp; omega
        intro v' w4 hown' hgrow _
        have hO' : OwnI w4 W0.heap.size v' ((ms.take (k + 1)).map (areaAt es cs)) := by
          rw [take_succ _ _ hkl, List.map_append, ← HLKE.out]
          unfold OwnI icells
          rw [List.length_append, List.map_append]
          have e : areaAt es cs ms[k] = a := by rw [← gI_eq hkl, HAA.out, HA1.out]
          simp only [List.map_cons, List.map_nil, e]
          exact hown'
        have hx' : Ext W0 w4 := ((hx.trans hx3).alloc _).grown hgrow (fun g hg => (World.ownsRow.lt HO.out g hg).1)
        have HO' := Lib.hid hO'; clear hO' hown' hgrow
        go_wp2_with fail
        go_roundw
        case rel => exact ⟨k + 1, by omega, by go_num, firstE_succ HT.out HZ.out, HO'.out, hx'⟩
        case measure => simp [intOf]; omega
    · go_wp2_with fail
      go_ret2
      have hE0 : areasE es cs ms = 0 := by
        unfold areasE; rw [HLM.out]
        obtain rfl : k = nM := by omega
        exact HT.out
      refine ⟨_, by rw [hE0]; rfl, fun _ => ?_, fun h => absurd hE0 h, hxw⟩
      have h := HO.out
      rw [HLKE.out, List.take_of_length_le (by rw [HLM.out]; omega)] at h
      refine ⟨h.1, ?_⟩
      rcases h.2 with h0 | ⟨g, cap, cur, hv, hb, r⟩
      · exact .inl h0
      · exact .inr ⟨g, cap, cur, hv, Nat.le_trans (Nat.le_of_lt hw0) hb, r⟩
end Go.Proofs.YtdmamobkgdpefaaGreat
