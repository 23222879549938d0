/- the reference: garmentref20.Turned: the lines that it makes lie in blocks of their own, one behind another -/
import Derived.Deep.Cut
import Derived.Deep.RegionHeld3
import Derived.Deep.CutRange
import Derived.Test.YtfegbaokcbjllaaGreatKWd
import Derived.Test.YtfegbaokcbjllaaGreatKOTurn
import Derived.Test.YtfegbaokcbjllaaGreatKTurnQ
/- the reference: garmentref12.Norm, Apply; garmentref10.far, Far, Check -/
namespace Go.Proofs.YtfegbaokcbjllaaGreat
open Go.RowKit
theorem tmod4 (q : Int) : (q.tmod 4 < 0 → q.tmod 4 + 4 = q % 4) ∧ (¬ q.tmod 4 < 0 → q.tmod 4 = q % 4) ∧ -4 < q.tmod 4 ∧ q.tmod 4 < 4 := by
 rcases Int.le_total 0 q with h | h
 ·rw [Int.tmod_eq_emod_of_nonneg h]; omega
 ·have e : q.tmod 4 = -((-q) % 4) := by
   have := Int.neg_tmod q 4
   rw [Int.tmod_eq_emod_of_nonneg (show 0 ≤ -q by omega)] at this
   omega
  rw [e]; omega
set_option maxRecDepth 100000 in
set_option maxHeartbeats 800000 in
theorem rnorm_any (f : Bool) (q : Int) (w : World) :
  Calls Tryz.prog 68 #[TV f q] w fun e w' => e = .returned (TV f (q % 4)) ∧ Ext w w' := by
 obtain ⟨h1, h2, h3, h4⟩ := tmod4 q
 obtain ⟨r, hr⟩ : ∃ r, r = q % 4 := ⟨_, rfl⟩
 obtain ⟨t, ht⟩ : ∃ t, t = q.tmod 4 := ⟨_, rfl⟩
 have HR := Lib.hid hr
 rw [← hr, ← ht] at h1 h2
 rw [← ht] at h3 h4
 have HT := Lib.hid ht
 have ht' : q.tmod 4 = t := ht.symm
 clear hr ht
 by_cases hq : t < 0
 ·have e := h1 hq
  have HE := Lib.hid e
  clear h1 h2 e
  go_enter Tryz.func68, Tryz.ntmps68
  go_wp2_with fail
  refine bodyPost_ret (v := TV f (q % 4)) (by rw [← HR.out, ← HE.out]; simp [results, Tryz.results68, go_sem]) rfl ⟨rfl, ?_⟩
  exact ((Ext.refl _).alloc _).alloc _
 ·have e := h2 hq
  have HE := Lib.hid e
  clear h1 h2 e
  go_enter Tryz.func68, Tryz.ntmps68
  go_wp2_with fail
  refine bodyPost_ret (v := TV f (q % 4)) (by rw [← HR.out, ← HE.out]; simp [results, Tryz.results68, go_sem]) rfl ⟨rfl, ?_⟩
  exact ((Ext.refl _).alloc _).alloc _
set_option maxRecDepth 100000 in
set_option maxHeartbeats 1600000 in
theorem rapply_any (f : Bool) (q : Int) (s : Spot) (w : World) :
  Calls Tryz.prog 37 #[TV f q, SV s] w fun e w' => e = .returned (SV (applyT f q s)) ∧ Ext w w' := by
 obtain ⟨x, y⟩ := s
 obtain ⟨r, hr⟩ : ∃ r : Nat, q % 4 = r := ⟨(q % 4).toNat, by omega⟩
 have hr4 : r < 4 := by omega
 have HR : Hid ((q % 4).toNat = r) := by show (q % 4).toNat = r; omega
 have HRq := Lib.hid hr
 clear hr
 obtain ⟨s0, hs0⟩ : ∃ s0, s0 = flipS f (x, y) := ⟨_, rfl⟩
 have HS0 := Lib.hid hs0; clear hs0
 go_enter Tryz.func37, Tryz.ntmps37
 go_upto_if 10 with fail
 refine wp_at fun W0 hW0 => ?_
 have HT : Hid (Blk 31 W0 w.heap.size [.bool f, .int .i64 q]) := by show Blk _ _ _ _; rw [hW0]; exact (((Blk.new' rfl).ext ((Ext.refl _).alloc _)).ext ((Ext.refl _).alloc _)).ext ((Ext.refl _).alloc _)
 have HZ : Hid (Blk 49 W0 (w.heap.size + 1 + 1) [.int .i64 0, .int .i64 0]) := by show Blk _ _ _ _; rw [hW0]; exact (Blk.new' (by simp)).ext ((Ext.refl _).alloc _)
 have HO : Hid (Blk 49 W0 (w.heap.size + 1 + 1 + 1) [.int .i64 x, .int .i64 y]) := by show Blk _ _ _ _; rw [hW0]; exact Blk.new' (by simp)
 have HX : Hid (Ext w W0) := by show Ext _ _; rw [hW0]; exact ((((Ext.refl _).alloc _).alloc _).alloc _).alloc _
 clear hW0
 go_cut [] from 9 (fun wc => Blk 31 wc w.heap.size [.bool f, .int .i64 q] ∧ Blk 49 wc (w.heap.size + 1 + 1) [.int .i64 0, .int .i64 0] ∧ Blk 49 wc (w.heap.size + 1 + 1 + 1) [.int .i64 s0.1, .int .i64 s0.2] ∧ Ext w wc)
 case first =>
  obtain ⟨o0, o1⟩ := blk2 HO.out
  have fo0 := HO.out.frozen 0
  cases f
  ·go_wp2_with fail
   go_meet
   case rel => exact ⟨HT.out, HZ.out, by rw [HS0.out]; exact HO.out, HX.out⟩
  ·go_wp2_with fail
   go_meet
   case rel => exact ⟨HT.out.other (by simp; omega) _, HZ.out.other (by simp) _, by rw [HS0.out]; exact HO.out.set 0 _, HX.out.setCell (by simp; omega) _⟩
 case rest =>
  obtain ⟨hT, hZ, hO, hx⟩ := hcut
  obtain ⟨t0, t1⟩ := blk2 hT
  have HT1 := Lib.hid hT; have HZ1 := Lib.hid hZ; have HO1 := Lib.hid hO; have HX1 := Lib.hid hx
  clear hT hZ hO hx HT HZ HO HX
  go_wp2_with fail
  refine (rnorm_any f q _).mono ?_
  rintro e w2 ⟨rfl, he2⟩
  rw [HRq.out]
  have HZ2 := Lib.hid (HZ1.out.ext he2); have HO2 := Lib.hid (HO1.out.ext he2); have HX2 := Lib.hid (HX1.out.trans he2)
  clear he2 t0 t1
  go_wp2_with fail
  refine wp_at fun W3 hW3 => ?_
  have hx3 : Ext w2 W3 := by rw [hW3]; exact (Ext.refl _).alloc _
  have HN : Hid (Blk 31 W3 w2.heap.size [.bool f, .int .i64 (r : Int)]) := by show Blk _ _ _ _; rw [hW3]; exact Blk.new' rfl
  have hZ3 := HZ2.out.ext hx3
  have hO3 := HO2.out.ext hx3
  have hx3' := HX2.out.trans hx3
  have hl2 : w.heap.size + 1 + 1 + 1 < w2.heap.size := HO2.out.lt
  clear hW3 hx3
  go_loopw [7] (fun i wr => ∃ k : Nat, k ≤ r ∧ i = .int .i64 k ∧ Blk 31 wr w2.heap.size [.bool f, .int .i64 (r : Int)] ∧ Blk 49 wr (w.heap.size + 1 + 1) [.int .i64 0, .int .i64 0] ∧ Blk 49 wr (w.heap.size + 1 + 1 + 1) [.int .i64 (quarts k s0).1, .int .i64 (quarts k s0).2] ∧ Ext w wr) (fun i _ => r - (intOf i).toNat)
  case atStart => exact ⟨0, Nat.zero_le _, rfl, HN.out, hZ3, hO3, hx3'⟩
  case round =>
   clear hZ3 hO3 hx3'
   obtain ⟨k, hk, rfl, hN, hZ, hO, hx⟩ := hrel
   obtain ⟨n0, n1⟩ := blk2 hN
   obtain ⟨o0, o1⟩ := blk2 hO
   have fo0 := hO.frozen 0
   have fo1 := hO.frozen 1
   have HN' := Lib.hid hN; have HZ' := Lib.hid hZ; have HO' := Lib.hid hO; have HX' := Lib.hid hx
   clear hN hZ hO hx
   by_cases hlt : k < r
   ·go_wp2_with fail
    go_roundw
    case rel =>
     refine ⟨k + 1, by omega, by go_num, (HN'.out.other (by simp; omega) _).other (by simp; omega) _, (HZ'.out.other (by simp) _).other (by simp) _, ?_, (HX'.out.setCell (by simp; omega) _).setCell (by simp; omega) _⟩
     have h := (HO'.out.set 0 (.int .i64 (wrap64 (-(quarts k s0).2)))).set 1 (.int .i64 (quarts k s0).1)
     exact h
    case measure => simp [intOf]; omega
   ·obtain rfl : k = r := by omega
    obtain ⟨z0, z1⟩ := blk2 HZ'.out
    have fz0 := HZ'.out.frozen 0
    have fz1 := HZ'.out.frozen 1
    go_wp2_with fail
    refine bodyPost_ret (v := SV (applyT f q (x, y))) (by
     have e : applyT f q (x, y) = quarts k s0 := by unfold applyT; rw [HR.out, HS0.out]
     rw [e]
     simp [results, Tryz.results37, go_sem, z0, z1]) rfl ⟨rfl, ?_⟩
    exact (HX'.out.setCell (by simp; omega) _).setCell (by simp; omega) _
theorem rev_take_succ {l : List Spot} {k : Nat} (h : k < l.length) : l.reverse.take (k + 1) = l.reverse.take k ++ [gS l (l.length - 1 - k)] := by
 rw [take_succ _ _ (by simpa using h), List.getElem_reverse, gS_eq (by omega)]
set_option maxRecDepth 100000 in
set_option maxHeartbeats 1600000 in
theorem reversed_any (A : Option Addr) (n c : Nat) (l : List Spot) (w : World) (ha : SpotsAt w A l) (hl : l.length = n) (hn : n ≤ 1000) :
  Calls Tryz.prog 94 #[.slice A n c] w fun e w' => ∃ v, e = .returned v ∧ OwnT 49 w' w.heap.size v l.reverse ∧ Ext w w' := by
 have HL := Lib.hid hl; clear hl
 have HA := Lib.hid ha; clear ha
 obtain ⟨i0, hi0, hz0, hz1, hz2⟩ := info_parts spot_info
 go_enter Tryz.func94, Tryz.ntmps94
 go_wp2_with fail
 go_loopw [3, 4] (fun v i wr => ∃ k : Nat, k ≤ n ∧ i = .int .i64 ((n : Int) - 1 - k) ∧ OwnT 49 wr w.heap.size v (l.reverse.take k) ∧ Ext w wr) (fun _ i _ => (intOf i + 1).toNat)
 case atStart => exact ⟨0, Nat.zero_le _, by simp, World.ownsRow_nil _ _ _ _, Ext.refl _⟩
 case round =>
  obtain ⟨k, hk, rfl, ho, hx⟩ := hrel
  obtain ⟨LK, hLK⟩ : ∃ LK, LK = l.reverse.take k := ⟨_, rfl⟩
  rw [← hLK] at ho
  have hLKl : LK.length ≤ 1000 := by rw [hLK, List.length_take, List.length_reverse, HL.out]; omega
  have HLK := Lib.hid hLK; have HO := Lib.hid ho; clear hLK ho
  by_cases hlt : k < n
  ·obtain ⟨m, hm⟩ : ∃ m, n = m + 1 + k := ⟨n - 1 - k, by omega⟩
   have hjm : ((n : Int) - 1 - k) = m := by omega
   rw [hjm]
   have hmn : (m : Int) < n := by omega
   obtain ⟨b, off, rfl, c0, c1⟩ := (HA.out.ext hx).g (k := m) (by rw [HL.out]; omega)
   have HM : Hid (l.length - 1 - k = m) := by show _ = _; rw [HL.out]; omega
   have hbl : b < wr.heap.size := cell_lt c0
   have hsz := hx.size
   have HMN := Lib.hid hm
   clear hjm hm
   go_wp2_with (at_builtin; refine wpList_append_own _ rfl (.tmp 12) (.tmp 17) 38 rfl w.heap.size 49 i0 (.agg #[.int .i64 0, .int .i64 0]) 2 16 Tryz.underlying38 hi0 hz0 hz1 hz2 rfl (by decide) u3 LK.length (scells LK) rfl (World.ownsRow.alloc HO.out _) ⟨wr.heap.size, 0, none⟩ 1 1 [.int .i64 (gS l m).1, .int .i64 (gS l m).2] rfl ?c1 ?c2 ?c3 ?c4 ?c5 ?c6 ?_)
   case c1 => rfl
   case c2 => exact World.news_of_block (cs := #[.int .i64 (gS l m).1, .int .i64 (gS l m).2]) (t := 49) (fr := (0, 0)) (heap_alloc_new wr _)
   case c3 => simp [Value.oneCell']
   case c4 => unfold maxLen; omega
   case c5 => omega
   case c6 => simp; omega
   intro v' w4 hown' hgrow _
   have hO' : OwnT 49 w4 w.heap.size v' (l.reverse.take (k + 1)) := by
    rw [rev_take_succ (by rw [HL.out]; exact hlt), HM.out, ← HLK.out]
    unfold OwnT
    rw [scells_append, List.length_append]
    exact hown'
   have hx' : Ext w w4 := (hx.alloc _).grown hgrow (fun g hg => (World.ownsRow.lt HO.out g hg).1)
   have HO' := Lib.hid hO'; clear hO' hown' hgrow
   go_wp2_with fail
   go_roundw
   case rel => exact ⟨k + 1, by omega, by have := HMN.out; congr 1; omega, HO'.out, hx'⟩
   case measure => simp [intOf]
  ·have hlt' : (n : Int) - 1 - k < 0 := by omega
   go_wp2_with fail
   go_ret
   refine ⟨_, rfl, ?_, hx⟩
   have h := HO.out
   rw [HLK.out, List.take_of_length_le (by rw [List.length_reverse, HL.out]; omega)] at h
   exact h
set_option maxRecDepth 100000 in
set_option maxHeartbeats 3200000 in
theorem rline_any (A : Option Addr) (n c : Nat) (f : Bool) (q : Int) (l : List Spot) (w : World) (ha : SpotsAt w A l) (hl : l.length = n) (hn : n ≤ 1000) :
  Calls Tryz.prog 67 #[.slice A n c, TV f q] w fun e w' => ∃ v, e = .returned v ∧ OwnT 49 w' w.heap.size v (turnL f q l) ∧ Ext w w' := by
 have HL := Lib.hid hl; clear hl
 have HA := Lib.hid ha; clear ha
 obtain ⟨i0, hi0, hz0, hz1, hz2⟩ := info_parts spot_info
 go_enter Tryz.func67, Tryz.ntmps67
 go_wp2_with fail
 refine wp_at fun W0 hW0 => ?_
 have hT : Blk 31 W0 w.heap.size [.bool f, .int .i64 q] := by rw [hW0]; exact Blk.new' rfl
 have hx0 : Ext w W0 := by rw [hW0]; exact (Ext.refl _).alloc _
 clear hW0
 go_loopw [5, 6] (fun v i wr => ∃ k : Nat, k ≤ n ∧ i = .int .i64 k ∧ Blk 31 wr w.heap.size [.bool f, .int .i64 q] ∧ OwnT 49 wr (w.heap.size + 1) v ((l.take k).map (applyT f q)) ∧ Ext w wr) (fun _ i _ => n - (intOf i).toNat)
 case atStart => exact ⟨0, Nat.zero_le _, rfl, hT, World.ownsRow_nil _ _ _ _, hx0⟩
 case round =>
  clear hT hx0
  obtain ⟨k, hk, rfl, hT, ho, hx⟩ := hrel
  obtain ⟨LK, hLK⟩ : ∃ LK, LK = (l.take k).map (applyT f q) := ⟨_, rfl⟩
  rw [← hLK] at ho
  have hLKl : LK.length ≤ 1000 := by rw [hLK, List.length_map, List.length_take]; omega
  have HLK := Lib.hid hLK; have HO := Lib.hid ho; have HT := Lib.hid hT; have HX := Lib.hid hx; clear hLK ho hT hx
  by_cases hlt : k < n
  ·obtain ⟨b, off, hA, c0, c1⟩ := HA.out.g (k := k) (by rw [HL.out]; exact hlt)
   have hbl : b < w.heap.size := cell_lt c0
   have c0' := HX.out.cell c0
   have c1' := HX.out.cell c1
   subst hA
   obtain ⟨t0, t1⟩ := blk2 HT.out
   have hwl : w.heap.size + 1 ≤ wr.heap.size := HT.out.lt
   have start : Ext w wr ∧ wr.cell? ⟨w.heap.size, 0, none⟩ = some (.bool f) ∧ wr.cell? ⟨w.heap.size, 1, none⟩ = some (.int .i64 q) ∧ wr.cell? ⟨b, off + k * 2, none⟩ = some (.int .i64 (gS l k).1) ∧ wr.cell? ⟨b, off + k * 2 + 1, none⟩ = some (.int .i64 (gS l k).2) := ⟨HX.out, t0, t1, c0', c1'⟩
   have START := Lib.hid start
   have keep : ∀ W W1 : World, (Ext w W ∧ W.cell? ⟨w.heap.size, 0, none⟩ = some (.bool f) ∧ W.cell? ⟨w.heap.size, 1, none⟩ = some (.int .i64 q) ∧ W.cell? ⟨b, off + k * 2, none⟩ = some (.int .i64 (gS l k).1) ∧ W.cell? ⟨b, off + k * 2 + 1, none⟩ = some (.int .i64 (gS l k).2)) → Ext W W1 → (Ext w W1 ∧ W1.cell? ⟨w.heap.size, 0, none⟩ = some (.bool f) ∧ W1.cell? ⟨w.heap.size, 1, none⟩ = some (.int .i64 q) ∧ W1.cell? ⟨b, off + k * 2, none⟩ = some (.int .i64 (gS l k).1) ∧ W1.cell? ⟨b, off + k * 2 + 1, none⟩ = some (.int .i64 (gS l k).2)) := fun W W1 ⟨h0, h1, h2, h3, h4⟩ hy => ⟨h0.trans hy, hy.cell h1, hy.cell h2, hy.cell h3, hy.cell h4⟩
   have KEEP := Lib.hid keep
   have keepg : ∀ W W1 : World, (Ext w W ∧ W.cell? ⟨w.heap.size, 0, none⟩ = some (.bool f) ∧ W.cell? ⟨w.heap.size, 1, none⟩ = some (.int .i64 q) ∧ W.cell? ⟨b, off + k * 2, none⟩ = some (.int .i64 (gS l k).1) ∧ W.cell? ⟨b, off + k * 2 + 1, none⟩ = some (.int .i64 (gS l k).2)) → W.grownBy W1 u5.ownBlock → (Ext w W1 ∧ W1.cell? ⟨w.heap.size, 0, none⟩ = some (.bool f) ∧ W1.cell? ⟨w.heap.size, 1, none⟩ = some (.int .i64 q) ∧ W1.cell? ⟨b, off + k * 2, none⟩ = some (.int .i64 (gS l k).1) ∧ W1.cell? ⟨b, off + k * 2 + 1, none⟩ = some (.int .i64 (gS l k).2)) := fun W W1 ⟨h0, h1, h2, h3, h4⟩ hg => by
    have hne : ∀ x, x ≤ w.heap.size → some x ≠ u5.ownBlock := fun x hx' e => by have := own_ge HO.out e.symm; omega
    have hlt' : ∀ x, x ≤ w.heap.size → x < W.heap.size := fun x hx' => by have := cell_lt h1; simp only at this; omega
    exact ⟨h0.grown hg (fun g hg' => by have := own_ge HO.out hg'; omega), (World.cell?_of_block (hg.block _ (hlt' _ (Nat.le_refl _)) (hne _ (Nat.le_refl _)))).trans h1, (World.cell?_of_block (hg.block _ (hlt' _ (Nat.le_refl _)) (hne _ (Nat.le_refl _)))).trans h2, (World.cell?_of_block (hg.block b (hlt' b (by omega)) (hne b (by omega)))).trans h3, (World.cell?_of_block (hg.block b (hlt' b (by omega)) (hne b (by omega)))).trans h4⟩
   have KEEPG := Lib.hid keepg
   have h63 : LK.length + 1 ≤ maxLen := by unfold maxLen; omega
   have h64 : (LK.length + 1) * 16 ≤ 140737488355328 := by omega
   have H63 := Lib.hid h63; have H64 := Lib.hid h64
   clear start keep keepg h63 h64 c0 c1 c0' c1' t0 t1
   go_wp2_with fail
   go_region_held3 (fun W => Ext w W ∧ W.cell? ⟨w.heap.size, 0, none⟩ = some (.bool f) ∧ W.cell? ⟨w.heap.size, 1, none⟩ = some (.int .i64 q) ∧ W.cell? ⟨b, off + k * 2, none⟩ = some (.int .i64 (gS l k).1) ∧ W.cell? ⟨b, off + k * 2 + 1, none⟩ = some (.int .i64 (gS l k).2))
    (first | assumption | exact KEEP.out wr _ START.out (Ext.drew (Ext.refl _)) | exact KEEP.out _ _ ‹_› ‹_› | exact KEEP.out _ _ ‹_› (Ext.alloc (Ext.refl _) _) | exact KEEPG.out _ _ ‹_› hgrow | fail)
    (first
     |(refine step_append_lies _ (by rfl) (.tmp 13) (.tmp 20) 38 (by rfl) (w.heap.size + 1) 49 i0 (.agg #[.int .i64 0, .int .i64 0]) 2 16 Tryz.underlying38 hi0 hz0 hz1 hz2 rfl (by decide) u5 _ (scells LK) (by rfl)
        (own_ext HO.out (Ext.alloc (Ext.trans (Ext.drew (Ext.refl _)) hxa) _)) ⟨wa.heap.size, 0, none⟩ 1 1 [.int .i64 (applyT f q (gS l k)).1, .int .i64 (applyT f q (gS l k)).2] (by rfl) (by rfl)
        (World.news_of_block (cs := #[.int .i64 (applyT f q (gS l k)).1, .int .i64 (applyT f q (gS l k)).2]) (t := 49) (fr := (0, 0)) (heap_alloc_new wa _)) (by simp [Value.oneCell']) (by decide) H63.out H64.out
        (Nat.le_trans hwl (Ext.size (Ext.alloc (Ext.trans (Ext.drew (Ext.refl wr)) hxa) _))) (wa.heap.size + 1) (by simp) ?_
       intro gg cap wn hown1 hgrow hat hltn)
     |(go_at_call 37; refine (rapply_any f q (gS l k) _).mono ?_; rintro e wa ⟨rfl, hxa⟩)
     |fail)
   have hO' : OwnT 49 wn (w.heap.size + 1) (.slice (some ⟨gg, 0, none⟩) (LK.length + 1) cap) ((l.take (k + 1)).map (applyT f q)) := by
    rw [map_take_succ (by rw [HL.out]; exact hlt), ← HLK.out]
    unfold OwnT
    rw [scells_append, List.length_append]
    exact hown1
   have hxn : Ext w wn := And.left ‹Ext w wn ∧ _›
   have hTn : Blk 31 wn w.heap.size [.bool f, .int .i64 q] := by
    have h1 : Blk 31 (wa.alloc (.cells #[.int .i64 (applyT f q (gS l k)).1, .int .i64 (applyT f q (gS l k)).2] 49)) w.heap.size [.bool f, .int .i64 q] := HT.out.ext (Ext.alloc (Ext.trans (Ext.drew (Ext.refl _)) hxa) _)
    exact (hgrow.block _ h1.lt (fun e => by have := own_ge HO.out e.symm; omega)).trans h1
   have HO' := Lib.hid hO'; have HTn := Lib.hid hTn; clear hO' hTn hown1 hgrow hat hltn
   go_wp2_with fail
   exact ⟨⟨k + 1, by omega, by go_num, HTn.out, HO'.out, hxn⟩, by simp [intOf]; omega⟩
  ·have hO3 : OwnT 49 wr (w.heap.size + 1) u5 (l.map (applyT f q)) := by
    have h := HO.out
    rw [HLK.out, List.take_of_length_le (by rw [HL.out]; omega)] at h
    exact h
   obtain ⟨VA, vc, hv⟩ := hO3.form2
   rw [List.length_map] at hv
   subst hv
   have HO3 := Lib.hid hO3; clear hO3
   obtain ⟨t0, t1⟩ := blk2 HT.out
   cases f
   ·go_wp2_with fail
    go_ret
    refine ⟨_, rfl, ?_, HX.out⟩
    unfold turnL; rw [if_neg (by decide)]
    exact HO3.out.base_le (by omega)
   ·go_wp2_with fail
    refine (reversed_any VA l.length vc (l.map (applyT true q)) _ HO3.out.plain.2 (List.length_map _) (by rw [HL.out]; exact hn)).mono ?_
    rintro e w3 ⟨v3, rfl, ho3, he3⟩
    go_wp2_with fail
    go_ret
    refine ⟨_, rfl, ?_, HX.out.trans he3⟩
    unfold turnL; rw [if_pos rfl]
    exact ho3.base_le HX.out.size
/- the lines' blocks grow from edge to edge -/
def SepP (ps : List EPart) : Prop := ∀ j k, j < k → k < ps.length → ∀ g g', (gP ps j).2.ownBlock = some g → (gP ps k).2.ownBlock = some g' → g < g'
def OwnEs (w : World) (base : Nat) (v : Value) (es : List Edge) : Prop := ∃ ps, PartsOk w base ps es ∧ w.ownsRow base 59 2 v es.length (ecells ps) ∧ SepP ps
def RetEs (w : World) (es : List Edge) (e : Ending) (w' : World) : Prop := ∃ v, e = .returned v ∧ OwnEs w' w.heap.size v es ∧ Ext w w'
theorem own_lt {w : World} {base : Nat} {e : TypeId} {size : Nat} {v : Value} {n : Nat} {xs : List Value} (h : w.ownsRow base e size v n xs) : ∀ g, v.ownBlock = some g → g < w.heap.size := fun g hg => (World.ownsRow.lt h g hg).2
theorem SepP.snoc {ps : List EPart} (h : SepP ps) (p : EPart) (hp : ∀ j, j < ps.length → ∀ g g', (gP ps j).2.ownBlock = some g → p.2.ownBlock = some g' → g < g') : SepP (ps ++ [p]) := by
 intro j k hjk hk g g' hg hg'
 have hl : (ps ++ [p]).length = ps.length + 1 := by simp
 have hj : j < ps.length := by omega
 have e1 : gP (ps ++ [p]) j = gP ps j := by simp [gP, List.getElem?_append_left hj]
 rw [e1] at hg
 by_cases hkl : k < ps.length
 ·have e2 : gP (ps ++ [p]) k = gP ps k := by simp [gP, List.getElem?_append_left hkl]
  rw [e2] at hg'
  exact h j k hjk hkl g g' hg hg'
 ·obtain rfl : k = ps.length := by omega
  have e2 : gP (ps ++ [p]) ps.length = p := by simp [gP]
  rw [e2] at hg'
  exact hp j hj g g' hg hg'
set_option maxRecDepth 100000 in
set_option maxHeartbeats 3200000 in
theorem rturned_sep (A : Option Addr) (n c : Nat) (f : Bool) (q : Int) (l : List Edge) (w : World) (ha : EdgesAt w A l) (hl : l.length = n) (hn : n ≤ 1000) (hlen : ∀ k, k < n → (gE l k).2.length ≤ 1000) :
  Calls Tryz.prog 36 #[.slice A n c, TV f q] w (RetEs w (turnE f q l)) := by
 have HL := Lib.hid hl; clear hl
 have HA := Lib.hid ha; clear ha
 have HN := Lib.hid hlen; clear hlen
 obtain ⟨e0, he0', hy0, hy1, hy2⟩ := info_parts edge_info
 go_enter Tryz.func36, Tryz.ntmps36
 go_wp2_with fail
 refine wp_at fun W0 hW0 => ?_
 have hT : Blk 31 W0 w.heap.size [.bool f, .int .i64 q] := by rw [hW0]; exact Blk.new' rfl
 have hx0 : Ext w W0 := by rw [hW0]; exact (Ext.refl _).alloc _
 clear hW0
 go_loopw [5, 6] (fun v i wr => ∃ k : Nat, k ≤ n ∧ i = .int .i64 k ∧ Blk 31 wr w.heap.size [.bool f, .int .i64 q] ∧ OwnEs wr (w.heap.size + 1) v ((turnE f q l).take k) ∧ Ext w wr) (fun _ i _ => n - (intOf i).toNat)
 case atStart => exact ⟨0, Nat.zero_le _, rfl, hT, ⟨[], ⟨rfl, fun _ hk => absurd hk (Nat.not_lt_zero _)⟩, World.ownsRow_nil _ _ _ _, fun j k _ hk => absurd hk (Nat.not_lt_zero _)⟩, hx0⟩
 case round =>
  clear hT hx0
  obtain ⟨k, hk, rfl, hT, ho, hx⟩ := hrel
  have HT := Lib.hid hT; have HO := Lib.hid ho; have HX := Lib.hid hx; clear hT ho hx
  by_cases hlt : k < n
  ·obtain ⟨t0, t1⟩ := blk2 HT.out
   go_upto_region 6 with fail
   go_cut [20] from 8 to 40 (fun cc wc => cc = .bool (f && decide (0 < k)) ∧ wc = wr)
   case first =>
    cases f
    ·go_wp2_with fail
     go_meet
     case rel => exact ⟨rfl, rfl⟩
    ·by_cases h0 : 0 < k
     ·have h0' : (0 : Int) < k := by omega
      go_wp2_with fail
      go_meet
      case rel => exact ⟨by simp [h0], rfl⟩
     ·have h0' : ¬ (0 : Int) < k := by omega
      go_wp2_with fail
      go_meet
      case rel => exact ⟨by simp [h0], rfl⟩
   case rest =>
    obtain ⟨h20, hwc⟩ := hcut
    subst h20 hwc
    go_upto_if 20 with fail
    go_cut [7] from 8 to 40 (fun kk wc' => kk = .int .i64 (turnI f n k : Nat) ∧ wc' = wc)
    case first =>
     cases hb : (f && decide (0 < k))
     ·have HI : Hid (turnI f n k = k) := by
       show turnI f n k = k
       unfold turnI
       split
       ·rename_i hf
        rw [hf] at hb
        simp at hb
        subst hb; simp
       ·rfl
      go_wp2_with fail
      go_meet
      case rel => exact ⟨by rw [HI.out], rfl⟩
     ·have hb' : f = true ∧ 0 < k := by simpa using hb
      have HI : Hid (turnI f n k = n - k) := by show _ = _; unfold turnI; rw [if_pos hb'.1, Nat.mod_eq_of_lt (by omega)]
      go_wp2_with fail
      go_meet
      case rel => exact ⟨by rw [HI.out]; congr 1; omega, rfl⟩
    case rest =>
     obtain ⟨h7, hwc2⟩ := hcut
     subst h7 hwc2
     obtain ⟨wz, rfl⟩ : ∃ wz : World, wz = wc := ⟨_, rfl⟩
     obtain ⟨j, hj⟩ : ∃ j, j = turnI f n k := ⟨_, rfl⟩
     have hjn : j < n := by rw [hj]; exact turnI_lt hlt
     rw [← hj]
     have HJ := Lib.hid hj; clear hj
     obtain ⟨b, off, L, cL, hA, hc0, hc1, hS, hcL, hcL'⟩ := HA.out.g (k := j) (by rw [HL.out]; exact hjn)
     have hll := HN.out j hjn
     obtain ⟨ln, hln⟩ : ∃ ln, ln = (gE l j).2 := ⟨_, rfl⟩
     obtain ⟨NM, hNM⟩ : ∃ NM, NM = (gE l j).1 := ⟨_, rfl⟩
     rw [← hln] at hc1 hS hll
     rw [← hNM] at hc0
     have HLN := Lib.hid hln; have HNM := Lib.hid hNM; have HS := Lib.hid hS
     have hbl : b < w.heap.size := cell_lt hc0
     have c0' := HX.out.cell hc0
     have c1' := HX.out.cell hc1
     subst hA
     have hwl : w.heap.size + 1 ≤ wz.heap.size := HT.out.lt
     obtain ⟨ps, hps, hor, hsep⟩ := HO.out
     have HPS := Lib.hid hps; have HOR := Lib.hid hor; have HSEP := Lib.hid hsep
     have start : Ext w wz ∧ wz.cell? ⟨w.heap.size, 0, none⟩ = some (.bool f) ∧ wz.cell? ⟨w.heap.size, 1, none⟩ = some (.int .i64 q) ∧ wz.cell? ⟨b, off + j * 2, none⟩ = some (.string NM) ∧ wz.cell? ⟨b, off + j * 2 + 1, none⟩ = some (.slice L ln.length cL) := ⟨HX.out, t0, t1, c0', c1'⟩
     have START := Lib.hid start
     have keep : ∀ W W1 : World, (Ext w W ∧ W.cell? ⟨w.heap.size, 0, none⟩ = some (.bool f) ∧ W.cell? ⟨w.heap.size, 1, none⟩ = some (.int .i64 q) ∧ W.cell? ⟨b, off + j * 2, none⟩ = some (.string NM) ∧ W.cell? ⟨b, off + j * 2 + 1, none⟩ = some (.slice L ln.length cL)) → Ext W W1 → (Ext w W1 ∧ W1.cell? ⟨w.heap.size, 0, none⟩ = some (.bool f) ∧ W1.cell? ⟨w.heap.size, 1, none⟩ = some (.int .i64 q) ∧ W1.cell? ⟨b, off + j * 2, none⟩ = some (.string NM) ∧ W1.cell? ⟨b, off + j * 2 + 1, none⟩ = some (.slice L ln.length cL)) := fun W W1 ⟨h0, h1, h2, h3, h4⟩ hy => ⟨h0.trans hy, hy.cell h1, hy.cell h2, hy.cell h3, hy.cell h4⟩
     have KEEP := Lib.hid keep
     have getw : ∀ W : World, (Ext w W ∧ W.cell? ⟨w.heap.size, 0, none⟩ = some (.bool f) ∧ W.cell? ⟨w.heap.size, 1, none⟩ = some (.int .i64 q) ∧ W.cell? ⟨b, off + j * 2, none⟩ = some (.string NM) ∧ W.cell? ⟨b, off + j * 2 + 1, none⟩ = some (.slice L ln.length cL)) → Ext w W := fun W h => h.1
     have GETW := Lib.hid getw
     have keepg : ∀ W W1 : World, (Ext w W ∧ W.cell? ⟨w.heap.size, 0, none⟩ = some (.bool f) ∧ W.cell? ⟨w.heap.size, 1, none⟩ = some (.int .i64 q) ∧ W.cell? ⟨b, off + j * 2, none⟩ = some (.string NM) ∧ W.cell? ⟨b, off + j * 2 + 1, none⟩ = some (.slice L ln.length cL)) → W.grownBy W1 u5.ownBlock → (Ext w W1 ∧ W1.cell? ⟨w.heap.size, 0, none⟩ = some (.bool f) ∧ W1.cell? ⟨w.heap.size, 1, none⟩ = some (.int .i64 q) ∧ W1.cell? ⟨b, off + j * 2, none⟩ = some (.string NM) ∧ W1.cell? ⟨b, off + j * 2 + 1, none⟩ = some (.slice L ln.length cL)) := fun W W1 ⟨h0, h1, h2, h3, h4⟩ hg => by
      have hne : ∀ x, x ≤ w.heap.size → some x ≠ u5.ownBlock := fun x hx' e => by have := own_ge HOR.out e.symm; omega
      have hlt' : ∀ x, x ≤ w.heap.size → x < W.heap.size := fun x hx' => by have := cell_lt h1; simp only at this; omega
      exact ⟨h0.grown hg (fun g hg' => by have := own_ge HOR.out hg'; omega), (World.cell?_of_block (hg.block _ (hlt' _ (Nat.le_refl _)) (hne _ (Nat.le_refl _)))).trans h1, (World.cell?_of_block (hg.block _ (hlt' _ (Nat.le_refl _)) (hne _ (Nat.le_refl _)))).trans h2, (World.cell?_of_block (hg.block b (hlt' b (by omega)) (hne b (by omega)))).trans h3, (World.cell?_of_block (hg.block b (hlt' b (by omega)) (hne b (by omega)))).trans h4⟩
     have KEEPG := Lib.hid keepg
     obtain ⟨EL, hEL⟩ : ∃ EL, EL = (turnE f q l).take k := ⟨_, rfl⟩
     rw [← hEL] at HPS HOR
     have hELl : EL.length ≤ 1000 := by rw [hEL, List.length_take]; omega
     have HEL := Lib.hid hEL
     have H63 : Hid (EL.length + 1 ≤ maxLen) := by show _ ≤ _; unfold maxLen; omega
     have H64 : Hid ((EL.length + 1) * 40 ≤ 140737488355328) := by show _ ≤ _; omega
     clear start keep keepg getw hc0 hc1 c0' c1' t0 t1 hps hor hsep hln hNM hS hcL hcL' hEL
     go_wp2_with fail
     go_region_held3 (fun W => Ext w W ∧ W.cell? ⟨w.heap.size, 0, none⟩ = some (.bool f) ∧ W.cell? ⟨w.heap.size, 1, none⟩ = some (.int .i64 q) ∧ W.cell? ⟨b, off + j * 2, none⟩ = some (.string NM) ∧ W.cell? ⟨b, off + j * 2 + 1, none⟩ = some (.slice L ln.length cL))
      (first | assumption | exact KEEP.out wz _ START.out (Ext.drew (Ext.refl _)) | exact KEEP.out _ _ ‹_› ‹_› | exact KEEP.out _ _ ‹_› (Ext.alloc (Ext.refl _) _) | exact KEEPG.out _ _ ‹_› hgrow | fail)
      (first
       |(refine step_append_lies _ (by rfl) (.tmp 25) (.tmp 39) 36 (by rfl) (w.heap.size + 1) 59 e0 (.agg #[.string ⟨#[]⟩, .slice none 0 0]) 2 40 Tryz.underlying36 he0' hy0 hy1 hy2 rfl (by decide) u5 _ (ecells ps) (by rfl)
          (own_ext HOR.out (Ext.alloc (Ext.trans (Ext.drew (Ext.refl _)) hxm) _)) ⟨wm.heap.size, 0, none⟩ 1 1 [.string NM, .slice Am ln.length cm] (by rfl) (by rfl)
          (World.news_of_block (cs := #[.string NM, .slice Am ln.length cm]) (t := 59) (fr := (0, 0)) (heap_alloc_new wm _)) (by simp [Value.oneCell']) (by decide) H63.out H64.out
          (Nat.le_trans hwl (Ext.size (Ext.alloc (Ext.trans (Ext.drew (Ext.refl wz)) hxm) _))) (wm.heap.size + 1) (by simp) ?_
         intro gg cap wn hown1 hgrow hat hltn)
       |(go_at_call 67; refine (rline_any L ln.length cL f q ln _ (HS.out.ext (GETW.out _ ‹_›)) rfl hll).mono ?_; rintro e wm ⟨vm, rfl, hom, hxm⟩; obtain ⟨Am, cm, hvm⟩ := hom.form2; rw [turnL_len] at hvm; subst hvm)
       |fail)
     have hch : Ext wz (wm.alloc (.cells #[.string NM, .slice Am ln.length cm] 59)) := Ext.alloc (Ext.trans (Ext.drew (Ext.refl _)) hxm) _
     have hO' : OwnEs wn (w.heap.size + 1) (.slice (some ⟨gg, 0, none⟩) (EL.length + 1) cap) ((turnE f q l).take (k + 1)) := by
      have hor1 := own_ext HOR.out hch
      have hp1 := (HPS.out.ext hch).grown hor1 (by decide) hgrow
      have hvm1 : OwnS wn (w.heap.size + 1) (.slice Am ln.length cm) (turnL f q ln) := ((OwnS.ext hom ((Ext.refl _).alloc _)).grown hor1 (by decide) hgrow).base_le (by simpa using hwl)
      rw [turnE_take (by rw [HL.out]; exact hlt), ← HEL.out]
      have e : turnAt f q l k = (NM, turnL f q ln) := by unfold turnAt; rw [HL.out, ← HJ.out, ← HLN.out, ← HNM.out]
      rw [e]
      refine ⟨ps ++ [(NM, .slice Am ln.length cm)], hp1.snoc ⟨rfl, hvm1⟩, ?_, HSEP.out.snoc _ fun j hj g g' hg hg' => ?_⟩
      ·rw [ecells_append, List.length_append]; exact hown1
      ·have h1 := own_lt ((HPS.out.2 j (by rw [← HPS.out.1]; exact hj)).2) g hg
       have h2 := own_ge hom hg'
       simp at h2
       omega
     have hxn : Ext w wn := And.left ‹Ext w wn ∧ _›
     have hTn : Blk 31 wn w.heap.size [.bool f, .int .i64 q] := by
      have h1 := HT.out.ext hch
      exact (hgrow.block _ h1.lt (fun e => by have := own_ge HOR.out e.symm; omega)).trans h1
     have HO' := Lib.hid hO'; have HTn := Lib.hid hTn; clear hO' hTn hown1 hgrow hat hltn
     go_wp2_with fail
     exact ⟨⟨k + 1, by omega, by go_num, HTn.out, HO'.out, hxn⟩, by simp [intOf]; omega⟩
  ·go_wp2_with fail
   go_ret
   refine ⟨_, rfl, ?_, HX.out⟩
   obtain ⟨ps, h1, h2, h3⟩ := HO.out
   rw [List.take_of_length_le (by rw [turnE_len, HL.out]; omega)] at h1 h2
   exact ⟨ps, ⟨h1.1, fun k hk => ⟨(h1.2 k hk).1, OwnS.base_le (h1.2 k hk).2 (by omega)⟩⟩, own_base_le h2 (by omega), h3⟩
end Go.Proofs.YtfegbaokcbjllaaGreat
