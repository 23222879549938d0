/- natural numbers: all that is proved of package natural, and sizes. -/
import Derived.Laws.AppendOwn
import Derived.Laws.MakeOwn
import Derived.RegionTactic
import Derived.Deep.AppendLies
import Derived.Test.YtfegbaokcbjllaaGreatKNatE
import Derived.Test.YtfegbaokcbjllaaGreatKWd
/- natural.Add -/
namespace Go.Proofs.YtfegbaokcbjllaaGreat
open Go.RowKit
theorem ret_u64 {a b : Int} (h : a = b) : Value.int .u64 a = .int .u64 b := by rw [h]
theorem make_cap (n : Nat) (hn : n ≤ 100000) (w : World) : (Instr.makeSlice 141 (.int .i64 0) (.int .i64 n)).run Tryz.prog w = .ok (.slice (some ⟨w.heap.size, 0, none⟩) 0 n) (w.alloc (.cells (ucells (List.replicate n 0)).toArray 192)) := by
 have h := run_make (P := Tryz.prog) w 141 192 (i := ((Tryz.prog.info? 192).getD default)) (z := .int .u32 0) Tryz.underlying141 (by kernel_rfl) (by kernel_rfl) .i64 .i64 (0 : Nat) n (by omega) (by omega) (by
  rw [show ((Tryz.prog.info? 192).getD default).bytes = 4 from by kernel_rfl]; omega) (by omega)
 rw [show ((Tryz.prog.info? 192).getD default).size = 1 from by kernel_rfl] at h
 rw [show (ucells (List.replicate n 0)).toArray = madeCells #[.int .u32 0] (n * 1) from by rw [made_one]; simp [ucells]]
 simpa [Value.cells] using h
set_option maxRecDepth 100000 in
set_option maxHeartbeats 1600000 in
theorem nadd_any (u v : Value) (x y : Nat) (w : World) (hu : NatAt w u x) (hv : NatAt w v y) (hx : (limbs x).length ≤ 1000) (hy : (limbs y).length ≤ 1000) : Calls Tryz.prog 150 #[u, v] w (RetNt w (x + y)) := by
 have HU := Lib.hid (fun W (he : Ext w W) => trimN_any u x W (hu.ext he))
 have HV := Lib.hid (fun W (he : Ext w W) => trimN_any v y W (hv.ext he))
 obtain ⟨A0, c0, rfl, _⟩ := hu
 obtain ⟨B0, d0, rfl, _⟩ := hv
 obtain ⟨n0, hn0⟩ : ∃ n, n = (limbs x).length := ⟨_, rfl⟩
 obtain ⟨m0, hm0⟩ : ∃ n, n = (limbs y).length := ⟨_, rfl⟩
 rw [← hn0] at HU ⊢
 rw [← hm0] at HV ⊢
 clear hn0 hm0
 obtain ⟨i0, hi0, hz0, hz1, hz2⟩ := info_parts lim_info
 go_enter Tryz.func150, Tryz.ntmps150
 go_wp2_with fail
 refine (HU.out _ (Ext.refl _)).mono ?_
 rintro e w1 ⟨u1, rfl, hu1, he1⟩
 have HU1 := Lib.hid hu1; have HX1 := Lib.hid he1
 obtain ⟨A, c, rfl, _, hca, hca'⟩ := hu1
 clear he1 HU
 go_wp2_with fail
 refine (HV.out _ HX1.out).mono ?_
 rintro e w2 ⟨v1, rfl, hv1, he2⟩
 have HV1 := Lib.hid hv1; have HX2 := Lib.hid (HX1.out.trans he2); have HU2 := Lib.hid (HU1.out.ext he2)
 obtain ⟨B, d, rfl, _, hdb, hdb'⟩ := hv1
 clear he2 HV HU1
 obtain ⟨A', c', e1, hA, _⟩ := HU2.out
 obtain ⟨B', d', e2, hB, _⟩ := HV1.out
 injection e1 with e1 _ _
 injection e2 with e2 _ _
 subst e1 e2
 have HA := Lib.hid hA; have HB := Lib.hid hB
 clear hA hB HU2 HV1
 have HXN : Hid (natL (limbs x) = x) := natL_limbs x
 have HYN : Hid (natL (limbs y) = y) := natL_limbs y
 have HXK := Lib.hid (limbs_ok x); have HYK := Lib.hid (limbs_ok y)
 obtain ⟨a, ha⟩ : ∃ a, a = limbs x := ⟨_, rfl⟩
 obtain ⟨b, hb⟩ : ∃ b, b = limbs y := ⟨_, rfl⟩
 rw [← ha] at HA HXN HXK hca hx ⊢
 rw [← hb] at HB HYN HYK hdb hy ⊢
 clear ha hb
 obtain ⟨n, hn⟩ : ∃ n, n = a.length := ⟨_, rfl⟩
 obtain ⟨m, hm⟩ : ∃ m, m = b.length := ⟨_, rfl⟩
 have HN : Hid (a.length = n) := hn.symm
 have HM : Hid (b.length = m) := hm.symm
 rw [← hn] at hca hx ⊢
 rw [← hm] at hdb hy ⊢
 clear hn hm
 by_cases hnm : n < m
 ·have hmk : ∀ W : World, (Instr.makeSlice 141 (.int .i64 0) (.int .i64 ((m : Int) + 1))).run Tryz.prog W = .ok (.slice (some ⟨W.heap.size, 0, none⟩) 0 (m + 1)) (W.alloc (.cells (ucells (List.replicate (m + 1) 0)).toArray 192)) := fun W => by rw [show ((m : Int) + 1) = ((m + 1 : Nat) : Int) by omega]; exact make_cap _ (by omega) W
  go_wp2_with fail
  refine wp_at fun w3 hw3 => ?_
  have HX3 : Hid (Ext w2 w3) := by show Ext _ _; rw [hw3]; exact (Ext.refl _).alloc _
  have HR3 : Hid (OwnU w3 w2.heap.size (.slice (some ⟨w2.heap.size, 0, none⟩) 0 (m + 1)) []) := by
   show OwnU _ _ _ _
   rw [hw3]
   exact blk_own (xs := []) (R := ucells (List.replicate (m + 1) 0)) (Blk.new _ _ _) (Nat.le_refl _) rfl (by omega) (by omega) (by rw [ucells_length]; simp)
  clear hw3 hmk
  go_loopw [5, 6, 26] (fun v ca i wr => ∃ (k c : Nat) (r : List Nat), k ≤ m ∧ i = .int .i64 k ∧ ca = .int .u64 (c : Int) ∧ OwnU wr w2.heap.size v r ∧ AddI b a r k c ∧ Ext w2 wr) (fun _ _ i _ => m - (intOf i).toNat)
  case atStart => exact ⟨0, 0, [], Nat.zero_le _, rfl, rfl, HR3.out, AddI.zero _ _, HX3.out⟩
  case round =>
   obtain ⟨k, c, r, hk, rfl, rfl, ho, hai, hx⟩ := hrel
   have HO := Lib.hid ho; have HI := Lib.hid hai; have HX := Lib.hid hx
   have hc1 : c ≤ 1 := hai.c1
   obtain ⟨V, vc, hv, _, _, _⟩ := ho.slice
   have HRL : Hid (r.length = k) := hai.len
   rw [hai.len] at hv
   subst hv
   clear ho hai hx
   have HO' : Hid (wr.ownsRow w2.heap.size 192 1 (.slice V k vc) k (ucells r)) := by have h := HO.out; unfold OwnU at h; rw [HRL.out] at h; exact h
   by_cases hlt : k < m
   ·obtain ⟨ba, oa, rfl, q0⟩ := (HB.out.ext HX.out) k (by rw [HM.out]; exact hlt)
    have hk0 : (0 : Int) ≤ k := by omega
    have hk1 : (k : Int) < m := by omega
    have hXb := gN_lt HYK.out k
    have hYb := gN_lt HXK.out k
    have HST := Lib.hid (HI.out.step HYK.out HXK.out)
    have HY0 : Hid (n ≤ k → gN a k = 0) := fun h => by simp [gN, show a.length ≤ k by rw [HN.out]; exact h]
    obtain ⟨X, hX⟩ : ∃ X, X = gN b k := ⟨_, rfl⟩
    obtain ⟨Y, hY⟩ : ∃ Y, Y = gN a k := ⟨_, rfl⟩
    rw [← hX] at q0 hXb HST
    rw [← hY] at hYb HST HY0
    have HYE := Lib.hid hY
    clear hX hY
    have hw1 : IntKind.u64.wrap ((c : Int) + (X : Int)) = (c : Int) + X := IntWalk.u64_in _ (by omega)
    have hw2 : IntKind.u64.wrap (X : Int) = (X : Int) := IntWalk.u64_in _ (by omega)
    by_cases hm : k < n
    ·obtain ⟨bb, ob, rfl, r0⟩ := (HA.out.ext HX.out) k (by rw [HN.out]; exact hm)
     rw [← HYE.out] at r0
     have hk2 : (k : Int) < n := by omega
     have hw3 : IntKind.u64.wrap ((c : Int) + (X : Int) + (Y : Int)) = (c : Int) + X + Y := IntWalk.u64_in _ (by omega)
     have hw4 : IntKind.u64.wrap (Y : Int) = (Y : Int) := IntWalk.u64_in _ (by omega)
     go_wp2_with (at_builtin; refine wpList_append_own _ rfl (.tmp 46) (.tmp 49) 141 rfl w2.heap.size 192 i0 (.int .u32 0) 1 4 Tryz.underlying141 hi0 hz0 hz1 hz2 rfl (by decide) (.slice V k vc) k (ucells r) rfl (World.ownsRow.alloc HO'.out _) ⟨wr.heap.size, 0, none⟩ 1 1 [.int .u32 (((c : Int) + (X : Int) + (Y : Int)) % 4294967296)] rfl ?zc1 ?zc2 ?zc3 ?zc4 ?zc5 ?zc6 ?_)
     case zc1 => rfl
     case zc2 => exact World.news_of_block (cs := #[.int .u32 (((c : Int) + (X : Int) + (Y : Int)) % 4294967296)]) (t := 192) (fr := (0, 0)) (heap_alloc_new wr _)
     case zc3 => simp [Value.oneCell']
     case zc4 => unfold maxLen; omega
     case zc5 => omega
     case zc6 => have := HX.out.size; simp; omega
     intro v' w4 hown' hgrow _
     have HO4 : Hid (OwnU w4 w2.heap.size v' (r ++ [(c + X + Y) % 4294967296])) := by
      show OwnU _ _ _ _
      unfold OwnU
      rw [List.length_append, ucells_append, HRL.out]
      have e : (((c + X + Y) % 4294967296 : Nat) : Int) = ((c : Int) + (X : Int) + (Y : Int)) % 4294967296 := by omega
      rw [show ucells [(c + X + Y) % 4294967296] = [.int .u32 (((c : Int) + (X : Int) + (Y : Int)) % 4294967296)] from by simp only [ucells, List.map_cons, List.map_nil, e]]
      exact hown'
     have HX4 : Hid (Ext w2 w4) := (HX.out.alloc _).grown hgrow (fun g hg => (World.ownsRow.lt HO'.out g hg).1)
     clear hown' hgrow
     go_wp2_with fail
     go_roundw
     case rel => exact ⟨k + 1, (c + X + Y) / 4294967296, _, by omega, by go_num, ret_u64 (by omega), HO4.out, HST.out, HX4.out⟩
     case measure => simp [intOf]; omega
    ·obtain rfl : Y = 0 := HY0.out (by omega)
     have hk2 : ¬ (k : Int) < n := by omega
     go_wp2_with (at_builtin; refine wpList_append_own _ rfl (.tmp 46) (.tmp 49) 141 rfl w2.heap.size 192 i0 (.int .u32 0) 1 4 Tryz.underlying141 hi0 hz0 hz1 hz2 rfl (by decide) (.slice V k vc) k (ucells r) rfl (World.ownsRow.alloc HO'.out _) ⟨wr.heap.size, 0, none⟩ 1 1 [.int .u32 (((c : Int) + (X : Int)) % 4294967296)] rfl ?zg1 ?zg2 ?zg3 ?zg4 ?zg5 ?zg6 ?_)
     case zg3 => simp [Value.oneCell']
     case zg4 => unfold maxLen; omega
     case zg5 => omega
     case zg6 => have := HX.out.size; simp; omega
     intro v' w4 hown' hgrow _
     have HO4 : Hid (OwnU w4 w2.heap.size v' (r ++ [(c + X + 0) % 4294967296])) := by
      show OwnU _ _ _ _
      unfold OwnU
      rw [List.length_append, ucells_append, HRL.out]
      have e : (((c + X + 0) % 4294967296 : Nat) : Int) = ((c : Int) + (X : Int)) % 4294967296 := by omega
      rw [show ucells [(c + X + 0) % 4294967296] = [.int .u32 (((c : Int) + (X : Int)) % 4294967296)] from by simp only [ucells, List.map_cons, List.map_nil, e]]
      exact hown'
     have HX4 : Hid (Ext w2 w4) := (HX.out.alloc _).grown hgrow (fun g hg => (World.ownsRow.lt HO'.out g hg).1)
     clear hown' hgrow
     go_wp2_with fail
     go_roundw
     case rel => exact ⟨k + 1, (c + X + 0) / 4294967296, _, by omega, by go_num, ret_u64 (by omega), HO4.out, HST.out, HX4.out⟩
     case measure => simp [intOf]; omega
   ·obtain rfl : k = m := by omega
    go_wp2_with (at_builtin; refine wpList_append_own _ rfl (.tmp 54) (.tmp 57) 141 rfl w2.heap.size 192 i0 (.int .u32 0) 1 4 Tryz.underlying141 hi0 hz0 hz1 hz2 rfl (by decide) (.slice V k vc) k (ucells r) rfl (World.ownsRow.alloc HO'.out _) ⟨wr.heap.size, 0, none⟩ 1 1 [.int .u32 ((c : Int))] rfl ?zh1 ?zh2 ?zh3 ?zh4 ?zh5 ?zh6 ?_)
    case zh1 => rfl
    case zh2 => exact World.news_of_block (cs := #[.int .u32 (c : Int)]) (t := 192) (fr := (0, 0)) (heap_alloc_new wr _)
    case zh3 => simp [Value.oneCell']
    case zh4 => unfold maxLen; omega
    case zh5 => omega
    case zh6 => have := HX.out.size; simp; omega
    intro v' w4 hown' hgrow _
    have HO4 : Hid (OwnU w4 w2.heap.size v' (r ++ [c])) := by
     show OwnU _ _ _ _
     unfold OwnU
     rw [List.length_append, ucells_append, HRL.out]
     exact hown'
    have HX4 : Hid (Ext w2 w4) := (HX.out.alloc _).grown hgrow (fun g hg => (World.ownsRow.lt HO'.out g hg).1)
    clear hown' hgrow
    obtain ⟨V4, v4c, hv4, hL4, h5, h6⟩ := HO4.out.slice
    have hlen : (r ++ [c]).length = k + 1 := by rw [List.length_append, HRL.out]; rfl
    rw [hlen] at hv4 h5
    have hT := trim_any V4 (k + 1) v4c (r ++ [c]) w4 hL4 (limOk_snoc HI.out.ok (by omega)) hlen h5 h6
    have hS := (show AddI b a r b.length c from by rw [HM.out]; exact HI.out).done (by rw [HM.out, HN.out]; omega)
    rw [hS, HYN.out, HXN.out] at hT
    subst hv4
    have HT4 := Lib.hid hT
    clear hL4 h5 h6 hT hS hlen
    go_wp2_with fail
    refine (HT4.out).mono ?_
    rintro e w5 ⟨v5, rfl, hv5, he5⟩
    go_wp2_with fail
    go_ret
    exact ⟨v5, rfl, (by rw [Nat.add_comm]; exact hv5), HX2.out.trans (HX4.out.trans he5)⟩
 have hmk : ∀ W : World, (Instr.makeSlice 141 (.int .i64 0) (.int .i64 ((n : Int) + 1))).run Tryz.prog W = .ok (.slice (some ⟨W.heap.size, 0, none⟩) 0 (n + 1)) (W.alloc (.cells (ucells (List.replicate (n + 1) 0)).toArray 192)) := fun W => by rw [show ((n : Int) + 1) = ((n + 1 : Nat) : Int) by omega]; exact make_cap _ (by omega) W
 go_wp2_with fail
 refine wp_at fun w3 hw3 => ?_
 have HX3 : Hid (Ext w2 w3) := by show Ext _ _; rw [hw3]; exact (Ext.refl _).alloc _
 have HR3 : Hid (OwnU w3 w2.heap.size (.slice (some ⟨w2.heap.size, 0, none⟩) 0 (n + 1)) []) := by
  show OwnU _ _ _ _
  rw [hw3]
  exact blk_own (xs := []) (R := ucells (List.replicate (n + 1) 0)) (Blk.new _ _ _) (Nat.le_refl _) rfl (by omega) (by omega) (by rw [ucells_length]; simp)
 clear hw3 hmk
 go_loopw [5, 6, 26] (fun v ca i wr => ∃ (k c : Nat) (r : List Nat), k ≤ n ∧ i = .int .i64 k ∧ ca = .int .u64 (c : Int) ∧ OwnU wr w2.heap.size v r ∧ AddI a b r k c ∧ Ext w2 wr) (fun _ _ i _ => n - (intOf i).toNat)
 case atStart => exact ⟨0, 0, [], Nat.zero_le _, rfl, rfl, HR3.out, AddI.zero _ _, HX3.out⟩
 case round =>
  obtain ⟨k, c, r, hk, rfl, rfl, ho, hai, hx⟩ := hrel
  have HO := Lib.hid ho; have HI := Lib.hid hai; have HX := Lib.hid hx
  have hc1 : c ≤ 1 := hai.c1
  obtain ⟨V, vc, hv, _, _, _⟩ := ho.slice
  have HRL : Hid (r.length = k) := hai.len
  rw [hai.len] at hv
  subst hv
  clear ho hai hx
  have HO' : Hid (wr.ownsRow w2.heap.size 192 1 (.slice V k vc) k (ucells r)) := by have h := HO.out; unfold OwnU at h; rw [HRL.out] at h; exact h
  by_cases hlt : k < n
  ·obtain ⟨ba, oa, rfl, q0⟩ := (HA.out.ext HX.out) k (by rw [HN.out]; exact hlt)
   have hk0 : (0 : Int) ≤ k := by omega
   have hk1 : (k : Int) < n := by omega
   have hXb := gN_lt HXK.out k
   have hYb := gN_lt HYK.out k
   have HST := Lib.hid (HI.out.step HXK.out HYK.out)
   have HY0 : Hid (m ≤ k → gN b k = 0) := fun h => by simp [gN, show b.length ≤ k by rw [HM.out]; exact h]
   obtain ⟨X, hX⟩ : ∃ X, X = gN a k := ⟨_, rfl⟩
   obtain ⟨Y, hY⟩ : ∃ Y, Y = gN b k := ⟨_, rfl⟩
   rw [← hX] at q0 hXb HST
   rw [← hY] at hYb HST HY0
   have HYE := Lib.hid hY
   clear hX hY
   have hw1 : IntKind.u64.wrap ((c : Int) + (X : Int)) = (c : Int) + X := IntWalk.u64_in _ (by omega)
   have hw2 : IntKind.u64.wrap (X : Int) = (X : Int) := IntWalk.u64_in _ (by omega)
   by_cases hm : k < m
   ·obtain ⟨bb, ob, rfl, r0⟩ := (HB.out.ext HX.out) k (by rw [HM.out]; exact hm)
    rw [← HYE.out] at r0
    have hk2 : (k : Int) < m := by omega
    have hw3 : IntKind.u64.wrap ((c : Int) + (X : Int) + (Y : Int)) = (c : Int) + X + Y := IntWalk.u64_in _ (by omega)
    have hw4 : IntKind.u64.wrap (Y : Int) = (Y : Int) := IntWalk.u64_in _ (by omega)
    go_wp2_with (at_builtin; refine wpList_append_own _ rfl (.tmp 46) (.tmp 49) 141 rfl w2.heap.size 192 i0 (.int .u32 0) 1 4 Tryz.underlying141 hi0 hz0 hz1 hz2 rfl (by decide) (.slice V k vc) k (ucells r) rfl (World.ownsRow.alloc HO'.out _) ⟨wr.heap.size, 0, none⟩ 1 1 [.int .u32 (((c : Int) + (X : Int) + (Y : Int)) % 4294967296)] rfl ?c1 ?c2 ?c3 ?c4 ?c5 ?c6 ?_)
    case c1 => rfl
    case c2 => exact World.news_of_block (cs := #[.int .u32 (((c : Int) + (X : Int) + (Y : Int)) % 4294967296)]) (t := 192) (fr := (0, 0)) (heap_alloc_new wr _)
    case c3 => simp [Value.oneCell']
    case c4 => unfold maxLen; omega
    case c5 => omega
    case c6 => have := HX.out.size; simp; omega
    intro v' w4 hown' hgrow _
    have HO4 : Hid (OwnU w4 w2.heap.size v' (r ++ [(c + X + Y) % 4294967296])) := by
     show OwnU _ _ _ _
     unfold OwnU
     rw [List.length_append, ucells_append, HRL.out]
     have e : (((c + X + Y) % 4294967296 : Nat) : Int) = ((c : Int) + (X : Int) + (Y : Int)) % 4294967296 := by omega
     rw [show ucells [(c + X + Y) % 4294967296] = [.int .u32 (((c : Int) + (X : Int) + (Y : Int)) % 4294967296)] from by simp only [ucells, List.map_cons, List.map_nil, e]]
     exact hown'
    have HX4 : Hid (Ext w2 w4) := (HX.out.alloc _).grown hgrow (fun g hg => (World.ownsRow.lt HO'.out g hg).1)
    clear hown' hgrow
    go_wp2_with fail
    go_roundw
    case rel => exact ⟨k + 1, (c + X + Y) / 4294967296, _, by omega, by go_num, ret_u64 (by omega), HO4.out, HST.out, HX4.out⟩
    case measure => simp [intOf]; omega
   ·obtain rfl : Y = 0 := HY0.out (by omega)
    have hk2 : ¬ (k : Int) < m := by omega
    go_wp2_with (at_builtin; refine wpList_append_own _ rfl (.tmp 46) (.tmp 49) 141 rfl w2.heap.size 192 i0 (.int .u32 0) 1 4 Tryz.underlying141 hi0 hz0 hz1 hz2 rfl (by decide) (.slice V k vc) k (ucells r) rfl (World.ownsRow.alloc HO'.out _) ⟨wr.heap.size, 0, none⟩ 1 1 [.int .u32 (((c : Int) + (X : Int)) % 4294967296)] rfl ?g1 ?g2 ?g3 ?g4 ?g5 ?g6 ?_)
    case g3 => simp [Value.oneCell']
    case g4 => unfold maxLen; omega
    case g5 => omega
    case g6 => have := HX.out.size; simp; omega
    intro v' w4 hown' hgrow _
    have HO4 : Hid (OwnU w4 w2.heap.size v' (r ++ [(c + X + 0) % 4294967296])) := by
     show OwnU _ _ _ _
     unfold OwnU
     rw [List.length_append, ucells_append, HRL.out]
     have e : (((c + X + 0) % 4294967296 : Nat) : Int) = ((c : Int) + (X : Int)) % 4294967296 := by omega
     rw [show ucells [(c + X + 0) % 4294967296] = [.int .u32 (((c : Int) + (X : Int)) % 4294967296)] from by simp only [ucells, List.map_cons, List.map_nil, e]]
     exact hown'
    have HX4 : Hid (Ext w2 w4) := (HX.out.alloc _).grown hgrow (fun g hg => (World.ownsRow.lt HO'.out g hg).1)
    clear hown' hgrow
    go_wp2_with fail
    go_roundw
    case rel => exact ⟨k + 1, (c + X + 0) / 4294967296, _, by omega, by go_num, ret_u64 (by omega), HO4.out, HST.out, HX4.out⟩
    case measure => simp [intOf]; omega
  ·obtain rfl : k = n := by omega
   go_wp2_with (at_builtin; refine wpList_append_own _ rfl (.tmp 54) (.tmp 57) 141 rfl w2.heap.size 192 i0 (.int .u32 0) 1 4 Tryz.underlying141 hi0 hz0 hz1 hz2 rfl (by decide) (.slice V k vc) k (ucells r) rfl (World.ownsRow.alloc HO'.out _) ⟨wr.heap.size, 0, none⟩ 1 1 [.int .u32 ((c : Int))] rfl ?h1 ?h2 ?h3 ?h4 ?h5 ?h6 ?_)
   case h1 => rfl
   case h2 => exact World.news_of_block (cs := #[.int .u32 (c : Int)]) (t := 192) (fr := (0, 0)) (heap_alloc_new wr _)
   case h3 => simp [Value.oneCell']
   case h4 => unfold maxLen; omega
   case h5 => omega
   case h6 => have := HX.out.size; simp; omega
   intro v' w4 hown' hgrow _
   have HO4 : Hid (OwnU w4 w2.heap.size v' (r ++ [c])) := by
    show OwnU _ _ _ _
    unfold OwnU
    rw [List.length_append, ucells_append, HRL.out]
    exact hown'
   have HX4 : Hid (Ext w2 w4) := (HX.out.alloc _).grown hgrow (fun g hg => (World.ownsRow.lt HO'.out g hg).1)
   clear hown' hgrow
   obtain ⟨V4, v4c, hv4, hL4, h5, h6⟩ := HO4.out.slice
   have hlen : (r ++ [c]).length = k + 1 := by rw [List.length_append, HRL.out]; rfl
   rw [hlen] at hv4 h5
   have hT := trim_any V4 (k + 1) v4c (r ++ [c]) w4 hL4 (limOk_snoc HI.out.ok (by omega)) hlen h5 h6
   have hS := (show AddI a b r a.length c from by rw [HN.out]; exact HI.out).done (by rw [HN.out, HM.out]; omega)
   rw [hS, HXN.out, HYN.out] at hT
   subst hv4
   have HT4 := Lib.hid hT
   clear hL4 h5 h6 hT hS hlen
   go_wp2_with fail
   refine (HT4.out).mono ?_
   rintro e w5 ⟨v5, rfl, hv5, he5⟩
   go_wp2_with fail
   go_ret
   exact ⟨v5, rfl, hv5, HX2.out.trans (HX4.out.trans he5)⟩
set_option maxRecDepth 100000 in
set_option maxHeartbeats 1600000 in
theorem nmul_any (u v : Value) (x y : Nat) (w : World) (hu : NatAt w u x) (hv : NatAt w v y) (hx : (limbs x).length ≤ 1000) (hy : (limbs y).length ≤ 1000) : Calls Tryz.prog 129 #[u, v] w (RetNt w (x * y)) := by
 have HU := Lib.hid (fun W (he : Ext w W) => trimN_any u x W (hu.ext he))
 have HV := Lib.hid (fun W (he : Ext w W) => trimN_any v y W (hv.ext he))
 obtain ⟨A0, c0, rfl, _⟩ := hu
 obtain ⟨B0, d0, rfl, _⟩ := hv
 obtain ⟨n0, hn0⟩ : ∃ n, n = (limbs x).length := ⟨_, rfl⟩
 obtain ⟨m0, hm0⟩ : ∃ n, n = (limbs y).length := ⟨_, rfl⟩
 rw [← hn0] at HU ⊢
 rw [← hm0] at HV ⊢
 clear hn0 hm0
 go_enter Tryz.func129, Tryz.ntmps129
 go_wp2_with fail
 refine (HU.out _ (Ext.refl _)).mono ?_
 rintro e w1 ⟨u1, rfl, hu1, he1⟩
 have HU1 := Lib.hid hu1; have HX1 := Lib.hid he1
 obtain ⟨A, c, rfl, _, hca, hca'⟩ := hu1
 clear he1 HU
 go_wp2_with fail
 refine (HV.out _ HX1.out).mono ?_
 rintro e w2 ⟨v1, rfl, hv1, he2⟩
 have HV1 := Lib.hid hv1; have HX2 := Lib.hid (HX1.out.trans he2); have HU2 := Lib.hid (HU1.out.ext he2)
 obtain ⟨B, d, rfl, _, hdb, hdb'⟩ := hv1
 clear he2 HV HU1
 obtain ⟨A', c', e1, hA, _⟩ := HU2.out
 obtain ⟨B', d', e2, hB, _⟩ := HV1.out
 injection e1 with e1 _ _
 injection e2 with e2 _ _
 subst e1 e2
 have HA := Lib.hid hA; have HB := Lib.hid hB
 clear hA hB HU2 HV1
 have HXN : Hid (natL (limbs x) = x) := natL_limbs x
 have HYN : Hid (natL (limbs y) = y) := natL_limbs y
 have HXK := Lib.hid (limbs_ok x); have HYK := Lib.hid (limbs_ok y)
 obtain ⟨a, ha⟩ : ∃ a, a = limbs x := ⟨_, rfl⟩
 obtain ⟨b, hb⟩ : ∃ b, b = limbs y := ⟨_, rfl⟩
 rw [← ha] at HA HXN HXK hca hx ⊢
 rw [← hb] at HB HYN HYK hdb hy ⊢
 clear ha hb
 obtain ⟨n, hn⟩ : ∃ n, n = a.length := ⟨_, rfl⟩
 obtain ⟨m, hm⟩ : ∃ m, m = b.length := ⟨_, rfl⟩
 have HN : Hid (a.length = n) := hn.symm
 have HM : Hid (b.length = m) := hm.symm
 rw [← hn] at hca hx ⊢
 rw [← hm] at hdb hy ⊢
 clear hn hm
 have HBL := HB
 clear HB
 have hmk : ∀ W : World, (Instr.makeSlice 141 (.int .i64 ((n : Int) + (m : Int))) (.int .i64 ((n : Int) + (m : Int)))).run Tryz.prog W = .ok (.slice (some ⟨W.heap.size, 0, none⟩) (n + m) (n + m)) (W.alloc (.cells (ucells (List.replicate (n + m) 0)).toArray 192)) := fun W => by rw [show ((n : Int) + (m : Int)) = ((n + m : Nat) : Int) by omega]; exact make_lims _ (by omega) W
 go_wp2_with fail
 refine wp_at fun w3 hw3 => ?_
 have HX3 : Hid (Ext w2 w3) := by show Ext _ _; rw [hw3]; exact (Ext.refl _).alloc _
 have HR3 : Hid (Blk 192 w3 w2.heap.size (ucells (List.replicate (n + m) 0))) := by show Blk _ _ _ _; rw [hw3]; exact Blk.new _ _ _
 have HZ := Lib.hid (MulI.zero a b)
 rw [HN.out, HM.out] at HZ
 clear hw3 hmk
 obtain ⟨G, hG⟩ : ∃ G, G = w2.heap.size := ⟨_, rfl⟩
 have HGL : Hid (w2.heap.size ≤ G) := Nat.le_of_eq hG.symm
 rw [← hG] at HR3 ⊢
 clear hG
 go_loopw [23] (fun i wr => ∃ (k : Nat) (r : List Nat), k ≤ n ∧ i = .int .i64 k ∧ Blk 192 wr G (ucells r) ∧ MulI a b r k ∧ Ext w2 wr) (fun i _ => n - (intOf i).toNat)
 case atStart => exact ⟨0, _, Nat.zero_le _, rfl, HR3.out, HZ.out, HX3.out⟩
 case round =>
  obtain ⟨k, r, hk, rfl, hb, hi, hx⟩ := hrel
  have HB := Lib.hid hb; have HI := Lib.hid hi; have HX := Lib.hid hx
  have HRL : Hid (r.length = n + m) := by show _ = _; rw [hi.len, HN.out, HM.out]
  clear hb hi hx HR3 HX3 HZ
  by_cases hlt : k < n
  ·obtain ⟨ba, oa, rfl, q0⟩ := (HA.out.ext HX.out) k (by rw [HN.out]; exact hlt)
   have hk0 : (0 : Int) ≤ k := by omega
   have hk1 : (k : Int) < n := by omega
   have hXb := gN_lt HXK.out k
   obtain ⟨X, hX⟩ : ∃ X, X = gN a k := ⟨_, rfl⟩
   rw [← hX] at q0 hXb
   have HXE := Lib.hid hX
   clear hX
   go_wp2_with fail
   go_loopw [8, 30] (fun ca j wi => ∃ (p c : Nat) (r : List Nat), p ≤ m ∧ j = .int .i64 p ∧ ca = .int .u64 (c : Int) ∧ Blk 192 wi G (ucells r) ∧ MulJ a b r k p c ∧ Ext w2 wi) (fun _ j _ => m - (intOf j).toNat)
   case atStart => exact ⟨0, 0, r, Nat.zero_le _, rfl, rfl, HB.out, HI.out.inner, HX.out⟩
   case round =>
    obtain ⟨wq, rfl⟩ : ∃ wq : World, wq = wr := ⟨_, rfl⟩
    obtain ⟨p, c, r, hp, rfl, rfl, hb, hj, hx⟩ := hrel
    have HB2 := Lib.hid hb; have HJ := Lib.hid hj; have HX2' := Lib.hid hx
    have hcb : c < 4294967296 := hj.lt
    have HRL2 : Hid (r.length = n + m) := by show _ = _; rw [hj.len, HN.out, HM.out]
    clear hb hj hx
    have hgl : G < wq.heap.size := HB2.out.lt
    by_cases hpm : p < m
    ·obtain ⟨bb, ob, rfl, r0⟩ := (HBL.out.ext HX2'.out) p (by rw [HM.out]; exact hpm)
     have hp0 : (0 : Int) ≤ p := by omega
     have hp1 : (p : Int) < m := by omega
     have hYb := gN_lt HYK.out p
     have hRb := gN_lt HJ.out.ok (k + p)
     have HST := Lib.hid (HJ.out.step (by rw [HN.out]; exact hlt) (by rw [HM.out]; exact hpm) HXK.out HYK.out)
     have c0 : wq.cell? ⟨G, k + p, none⟩ = some (.int .u32 (gN r (k + p) : Int)) := by rw [HB2.out.cell, ucells_get (by rw [HRL2.out]; omega)]
     have f0 := HB2.out.frozen (k + p)
     rw [← HXE.out] at HST
     obtain ⟨Y, hY⟩ : ∃ Y, Y = gN b p := ⟨_, rfl⟩
     obtain ⟨R, hR⟩ : ∃ R, R = gN r (k + p) := ⟨_, rfl⟩
     rw [← hY] at r0 hYb HST
     rw [← hR] at c0 hRb HST
     have hbd := mul_step_bd hcb hXb hYb hRb
     obtain ⟨P, hP⟩ : ∃ P, P = X * Y := ⟨_, rfl⟩
     rw [← hP] at HST hbd
     have hPI : (X : Int) * (Y : Int) = (P : Int) := by rw [hP]; rfl
     obtain ⟨T, hT⟩ : ∃ T, T = c + P + R := ⟨_, rfl⟩
     rw [← hT] at HST hbd
     have hw0 : IntKind.u64.wrap (X : Int) = (X : Int) := IntWalk.u64_in _ (by omega)
     have hw1 : IntKind.u64.wrap (Y : Int) = (Y : Int) := IntWalk.u64_in _ (by omega)
     have hw2 : IntKind.u64.wrap (R : Int) = (R : Int) := IntWalk.u64_in _ (by omega)
     have hw3 : IntKind.u64.wrap (P : Int) = (P : Int) := IntWalk.u64_in _ (by omega)
     have hw4 : IntKind.u64.wrap ((P : Int) + (R : Int)) = (P : Int) + R := IntWalk.u64_in _ (by omega)
     have hw5 : IntKind.u64.wrap ((c : Int) + ((P : Int) + (R : Int))) = (T : Int) := by rw [IntWalk.u64_in _ (by omega)]; omega
     have hix0 : (0 : Int) ≤ (k : Int) + p := by omega
     have hix1 : (k : Int) + p < (n : Int) + m := by omega
     have hix2 : ((k : Int) + p).toNat = k + p := by omega
     clear hY hR hP hT
     have HTB := Lib.hid hbd
     go_wp2_with fail
     go_roundw
     case rel =>
      refine ⟨p + 1, T / 4294967296, r.set (k + p) (T % 4294967296), by omega, by go_num, rfl, ?_, HST.out, Ext.setCell (p := ⟨G, k + p, none⟩) HX2'.out HGL.out _⟩
      have h := HB2.out.set (k + p) (.int .u32 ((T % 4294967296 : Nat) : Int))
      rw [ucells_set] at h
      exact h
     case measure => simp [intOf]; omega
    ·obtain rfl : m = p := by omega
     have HD := Lib.hid ((show MulJ a b r k b.length c from by rw [HM.out]; exact HJ.out).done (by rw [HN.out]; exact hlt))
     rw [HM.out] at HD
     have c0 : wq.cell? ⟨G, k + m, none⟩ = some (.int .u32 (gN r (k + m) : Int)) := by rw [HB2.out.cell, ucells_get (by rw [HRL2.out]; omega)]
     have f0 := HB2.out.frozen (k + m)
     have hix0 : (0 : Int) ≤ (k : Int) + m := by omega
     have hix1 : (k : Int) + m < (n : Int) + m := by omega
     have hix2 : ((k : Int) + m).toNat = k + m := by omega
     have hwc : IntKind.u32.wrap (c : Int) = (c : Int) := IntWalk.u32_in _ (by omega)
     go_wp2_with fail
     go_roundw
     case rel =>
      refine ⟨k + 1, r.set (k + m) c, by omega, by go_num, ?_, HD.out, Ext.setCell (p := ⟨G, k + m, none⟩) HX2'.out HGL.out _⟩
      have h := HB2.out.set (k + m) (.int .u32 (c : Int))
      rw [ucells_set] at h
      have e : (c : Int) % 4294967296 = (c : Int) := by omega
      first
       |exact h
       |(rw [e]; exact h)
     case measure => simp [intOf]; omega
  ·obtain rfl : n = k := by omega
   have hdn := (show MulI a b r a.length from by rw [HN.out]; exact HI.out).done
   have hT := trim_any (some ⟨G, 0, none⟩) (n + m) (n + m) r wr (lims_blk (R := []) (by rw [List.append_nil]; exact HB.out)) HI.out.ok HRL.out (Nat.le_refl _) (by omega)
   rw [hdn, HXN.out, HYN.out] at hT
   have HT := Lib.hid hT
   clear hT hdn
   go_wp2_with fail
   refine (HT.out).mono ?_
   rintro e w5 ⟨v5, rfl, hv5, he5⟩
   go_wp2_with fail
   go_ret
   exact ⟨v5, rfl, hv5, HX2.out.trans (HX.out.trans he5)⟩
/- a sign and a size -/
def sgI (neg : Bool) (n : Nat) : Int := if neg = true then -(n : Int) else n
def negI (z : Int) : Bool := decide (z < 0)
theorem sgI_abs (neg : Bool) (n : Nat) : (sgI neg n).natAbs = n := by unfold sgI; split <;> simp
theorem negI_sgI (neg : Bool) (n : Nat) : negI (sgI neg n) = (neg && decide (0 < n)) := by
 unfold negI sgI
 cases neg
 ·simp
 ·simp only [if_true, Bool.true_and, decide_eq_decide]; omega
theorem sgI_negI (z : Int) : sgI (negI z) z.natAbs = z := by
 unfold sgI negI
 split
 ·rename_i h; have := of_decide_eq_true h; omega
 ·rename_i h; have : ¬ z < 0 := fun h' => h (decide_eq_true h'); omega
theorem sgI_neg (neg : Bool) (n : Nat) : sgI (!neg) n = - sgI neg n := by
 unfold sgI; cases neg <;> simp
theorem sgI_mul (a b : Bool) (m n : Nat) : sgI (a != b) (m * n) = sgI a m * sgI b n := by
 unfold sgI
 cases a <;> cases b <;> simp [Int.neg_mul, Int.mul_neg]
/- reduced -/
theorem mkRat_abs {z : Int} {d : Nat} (hd : d ≠ 0) : (mkRat z d).num.natAbs = z.natAbs / Nat.gcd z.natAbs d := by
 rw [show mkRat z d = Rat.normalize z d hd from (Rat.normalize_eq_mkRat hd).symm, Rat.normalize_eq]
 simp only
 rw [Int.natAbs_ediv_of_dvd (Int.ofNat_dvd_left.2 (Nat.gcd_dvd_left _ _))]
 simp
theorem mkRat_den {z : Int} {d : Nat} (hd : d ≠ 0) : (mkRat z d).den = d / Nat.gcd z.natAbs d := by
 rw [show mkRat z d = Rat.normalize z d hd from (Rat.normalize_eq_mkRat hd).symm, Rat.normalize_eq]
theorem mkRat_sgn {z : Int} {d : Nat} (hd : d ≠ 0) : negI (mkRat z d).num = negI z := by
 rw [show mkRat z d = Rat.normalize z d hd from (Rat.normalize_eq_mkRat hd).symm, Rat.normalize_eq]
 unfold negI
 simp only
 have hg : 0 < Nat.gcd z.natAbs d := Nat.gcd_pos_of_pos_right _ (by omega)
 rw [decide_eq_decide]
 constructor
 ·intro h
  rcases Int.lt_or_le z 0 with h1 | h1
  ·exact h1
  ·have := Int.ediv_nonneg h1 (show (0 : Int) ≤ (Nat.gcd z.natAbs d : Int) by omega)
   omega
 ·intro h
  obtain ⟨k, hk⟩ : ((Nat.gcd z.natAbs d : Nat) : Int) ∣ z := Int.ofNat_dvd_left.2 (Nat.gcd_dvd_left _ _)
  have hz : z / (Nat.gcd z.natAbs d : Int) = k := by
   conv => lhs; lhs; rw [hk]
   exact Int.mul_ediv_cancel_left _ (by omega)
  rw [hz]
  rcases Int.lt_or_le k 0 with h1 | h1
  ·exact h1
  ·have := Int.mul_nonneg (show (0 : Int) ≤ (Nat.gcd z.natAbs d : Int) by omega) h1
   omega
/- the operations -/
theorem rat_add (a b : Rat) : a + b = mkRat (a.num * b.den + b.num * a.den) (a.den * b.den) := by
 rw [Rat.add_def, Rat.normalize_eq_mkRat]
theorem rat_mul (a b : Rat) : a * b = mkRat (a.num * b.num) (a.den * b.den) := by
 rw [Rat.mul_def, Rat.normalize_eq_mkRat]
theorem rat_neg (a : Rat) : -a = mkRat (-a.num) a.den := by
 have h := Rat.mkRat_self (-a)
 rw [Rat.neg_num, Rat.neg_den] at h
 exact h.symm
theorem rat_div (a b : Rat) (hb : b.num ≠ 0) : a / b = mkRat (sgI (negI a.num != negI b.num) (a.num.natAbs * b.den)) (a.den * b.num.natAbs) := by
 have e1 : sgI (negI a.num != negI b.num) (a.num.natAbs * b.den) = a.num * sgI (negI b.num) b.den := by
  rw [sgI_mul, sgI_negI]
 have e2 : b⁻¹ = mkRat (sgI (negI b.num) b.den) b.num.natAbs := by
  rw [Rat.inv_def]
  unfold sgI negI
  rcases Int.lt_or_le b.num 0 with h | h
  ·rw [decide_eq_true h, if_pos rfl]
   have : b.num = -(b.num.natAbs : Int) := by omega
   conv => lhs; rw [this, Rat.divInt_neg']
   rw [Rat.divInt_ofNat]
  ·rw [decide_eq_false (by omega), if_neg (by decide)]
   have : b.num = (b.num.natAbs : Int) := by omega
   conv => lhs; rw [this]
   rw [Rat.divInt_ofNat]
 rw [e1, Rat.div_def, e2]
 conv => lhs; lhs; rw [← Rat.mkRat_self a]
 rw [Rat.mkRat_mul_mkRat]
def RetSb (w : World) (x y : Nat) (e : Ending) (w' : World) : Prop := (x < y → e = .returned (.tuple #[.slice none 0 0, .bool false]) ∧ Ext w w') ∧ (¬ x < y → ∃ u, e = .returned (.tuple #[u, .bool true]) ∧ NatAt w' u (x - y) ∧ Ext w w')
set_option maxRecDepth 100000 in
set_option maxHeartbeats 1600000 in
theorem nsub_any (u v : Value) (x y : Nat) (w : World) (hu : NatAt w u x) (hv : NatAt w v y) (hx : (limbs x).length ≤ 1000) (hy : (limbs y).length ≤ 1000) : Calls Tryz.prog 161 #[u, v] w (RetSb w x y) := by
 have HU := Lib.hid (fun W (he : Ext w W) => trimN_any u x W (hu.ext he))
 have HV := Lib.hid (fun W (he : Ext w W) => trimN_any v y W (hv.ext he))
 obtain ⟨A0, c0, rfl, _⟩ := hu
 obtain ⟨B0, d0, rfl, _⟩ := hv
 obtain ⟨n0, hn0⟩ : ∃ n, n = (limbs x).length := ⟨_, rfl⟩
 obtain ⟨m0, hm0⟩ : ∃ n, n = (limbs y).length := ⟨_, rfl⟩
 rw [← hn0] at HU ⊢
 rw [← hm0] at HV ⊢
 clear hn0 hm0
 go_enter Tryz.func161, Tryz.ntmps161
 go_wp2_with fail
 refine (HU.out _ (Ext.refl _)).mono ?_
 rintro e w1 ⟨u1, rfl, hu1, he1⟩
 have HU1 := Lib.hid hu1; have HX1 := Lib.hid he1
 obtain ⟨A, c, rfl, _, hca, hca'⟩ := hu1
 clear he1 HU
 go_wp2_with fail
 refine (HV.out _ HX1.out).mono ?_
 rintro e w2 ⟨v1, rfl, hv1, he2⟩
 have HV1 := Lib.hid hv1; have HX2 := Lib.hid (HX1.out.trans he2); have HU2 := Lib.hid (HU1.out.ext he2)
 obtain ⟨B, d, rfl, _, hdb, hdb'⟩ := hv1
 clear he2 HV HU1
 have HCM := Lib.hid (ncmp_any _ _ x y w2 HU2.out HV1.out)
 obtain ⟨A', c', e1, hA, _⟩ := HU2.out
 obtain ⟨B', d', e2, hB, _⟩ := HV1.out
 injection e1 with e1 _ e3
 injection e2 with e2 _ e4
 subst e1 e2 e3 e4
 have HA := Lib.hid hA; have HB := Lib.hid hB
 clear hA hB HU2 HV1
 have HLL : Hid ((limbs x).length < (limbs y).length → x < y) := limbs_len_lt
 have HXN : Hid (natL (limbs x) = x) := natL_limbs x
 have HYN : Hid (natL (limbs y) = y) := natL_limbs y
 have HXK := Lib.hid (limbs_ok x); have HYK := Lib.hid (limbs_ok y)
 obtain ⟨a, ha⟩ : ∃ a, a = limbs x := ⟨_, rfl⟩
 obtain ⟨b, hb⟩ : ∃ b, b = limbs y := ⟨_, rfl⟩
 rw [← ha] at HA HXN HXK hca hx HCM HLL ⊢
 rw [← hb] at HB HYN HYK hdb hy HCM HLL ⊢
 clear ha hb
 obtain ⟨n, hn⟩ : ∃ n, n = a.length := ⟨_, rfl⟩
 obtain ⟨m, hm⟩ : ∃ m, m = b.length := ⟨_, rfl⟩
 have HN : Hid (a.length = n) := hn.symm
 have HM : Hid (b.length = m) := hm.symm
 rw [← hn] at hca hx HCM HLL ⊢
 rw [← hm] at hdb hy HCM HLL ⊢
 clear hn hm
 go_wp2_with fail
 refine (HCM.out).mono ?_
 rintro e w3 ⟨rfl, he3⟩
 have HX3 := Lib.hid he3
 clear he3 HCM
 by_cases hc : x < y
 ·have e1 : cmpI (x : Int) (y : Int) = -1 := by unfold cmpI; rw [if_pos (by omega)]
  rw [e1]
  clear e1
  go_wp2_with fail
  go_ret2
  exact ⟨fun _ => ⟨rfl, HX2.out.trans HX3.out⟩, fun h => absurd hc h⟩
 have hcm : ∃ z : Int, cmpI (x : Int) (y : Int) = z ∧ 0 ≤ z := by
  by_cases h2 : y < x
  ·exact ⟨1, by unfold cmpI; rw [if_neg (by omega), if_pos (by omega)], by omega⟩
  ·exact ⟨0, by unfold cmpI; rw [if_neg (by omega), if_neg (by omega)], by omega⟩
 obtain ⟨z, hz, hz0⟩ := hcm
 rw [hz]
 clear hz
 have hz1 : ¬ z < 0 := by omega
 have HMN : Hid (m ≤ n) := by
  show m ≤ n
  rcases Nat.lt_or_ge n m with h | h
  ·exact absurd (HLL.out h) hc
  ·exact h
 have hmk := make_lims n (by omega)
 go_wp2_with fail
 refine wp_at fun w4 hw4 => ?_
 have HX4 : Hid (Ext w3 w4) := by show Ext _ _; rw [hw4]; exact (Ext.refl _).alloc _
 have HR4 : Hid (Blk 192 w4 w3.heap.size (ucells (List.replicate n 0))) := by show Blk _ _ _ _; rw [hw4]; exact Blk.new _ _ _
 clear hw4 hmk
 obtain ⟨G, hG⟩ : ∃ G, G = w3.heap.size := ⟨_, rfl⟩
 have HGL : Hid (w3.heap.size ≤ G) := Nat.le_of_eq hG.symm
 rw [← hG] at HR4 ⊢
 clear hG
 go_loopw [7, 24] (fun ca i wr => ∃ (k c : Nat) (r : List Nat), k ≤ n ∧ i = .int .i64 k ∧ ca = .int .u64 (c : Int) ∧ Blk 192 wr G (ucells r) ∧ SubI a b r n k c ∧ Ext w3 wr) (fun _ i _ => n - (intOf i).toNat)
 case atStart => exact ⟨0, 0, _, Nat.zero_le _, rfl, rfl, HR4.out, ⟨by simp, fun x hx => by rw [List.eq_of_mem_replicate hx]; omega, by simp [natL], by omega⟩, HX4.out⟩
 case round =>
  obtain ⟨k, c, r, hk, rfl, rfl, hb, hi, hx⟩ := hrel
  have HB2 := Lib.hid hb; have HI := Lib.hid hi; have HX := Lib.hid hx
  have hc1 : c ≤ 1 := hi.c1
  have HRL : Hid (r.length = n) := hi.len
  clear hb hi hx HR4 HX4
  by_cases hlt : k < n
  ·obtain ⟨ba, oa, rfl, q0⟩ := (HA.out.ext (HX3.out.trans HX.out)) k (by rw [HN.out]; exact hlt)
   have hk0 : (0 : Int) ≤ k := by omega
   have hk1 : (k : Int) < n := by omega
   have hXb := gN_lt HXK.out k
   have hYb := gN_lt HYK.out k
   have HST := Lib.hid (HI.out.step hlt HXK.out HYK.out)
   have c0 : wr.cell? ⟨G, k, none⟩ = some (.int .u32 (gN r k : Int)) := by rw [HB2.out.cell, ucells_get (by rw [HRL.out]; omega)]
   have f0 := HB2.out.frozen k
   have HY0 : Hid (m ≤ k → gN b k = 0) := fun h => by simp [gN, show b.length ≤ k by rw [HM.out]; exact h]
   obtain ⟨X, hX⟩ : ∃ X, X = gN a k := ⟨_, rfl⟩
   obtain ⟨Y, hY⟩ : ∃ Y, Y = gN b k := ⟨_, rfl⟩
   rw [← hX] at q0 hXb HST
   rw [← hY] at hYb HST HY0
   have HYE := Lib.hid hY
   clear hX hY
   obtain ⟨D1, hD1⟩ : ∃ D, D = (X + 18446744073709551616 - c) % 18446744073709551616 := ⟨_, rfl⟩
   obtain ⟨D2, hD2⟩ : ∃ D, D = (X + 18446744073709551616 - c - Y) % 18446744073709551616 := ⟨_, rfl⟩
   have hw1 : IntKind.u64.wrap (X : Int) = (X : Int) := IntWalk.u64_in _ (by omega)
   have hw2 : IntKind.u64.wrap ((X : Int) - (c : Int)) = (D1 : Int) := by rw [IntKind.wrap_u64]; omega
   have hw3 : IntKind.u64.wrap (Y : Int) = (Y : Int) := IntWalk.u64_in _ (by omega)
   have hw4 : IntKind.u64.wrap ((D1 : Int) - (Y : Int)) = (D2 : Int) := by rw [IntKind.wrap_u64]; omega
   have HL2 : Hid (D2 % 4294967296 = (X + 2 * 4294967296 - c - Y) % 4294967296) := by show _ = _; omega
   have HC2 : Hid (D2 / 9223372036854775808 = if X < c + Y then 1 else 0) := by show _ = _; split <;> omega
   rw [← HL2.out, ← HC2.out] at HST
   by_cases hm : k < m
   ·obtain ⟨bb, ob, rfl, r0⟩ := (HB.out.ext (HX3.out.trans HX.out)) k (by rw [HM.out]; exact hm)
    rw [← HYE.out] at r0
    have hk2 : (k : Int) < m := by omega
    clear hD1 hD2
    go_wp2_with fail
    go_roundw
    case rel =>
     have e5 : ((D2 / 9223372036854775808 : Nat) : Int) = (D2 : Int) / 9223372036854775808 := by omega
     have e6 : ((D2 % 4294967296 : Nat) : Int) = (D2 : Int) % 4294967296 := by omega
     refine ⟨k + 1, D2 / 9223372036854775808, r.set k (D2 % 4294967296), by omega, by go_num, by rw [e5], ?_, HST.out, Ext.setCell (p := ⟨G, k, none⟩) HX.out HGL.out _⟩
     have h := HB2.out.set k (.int .u32 ((D2 % 4294967296 : Nat) : Int))
     rw [ucells_set, e6] at h
     exact h
    case measure => simp [intOf]; omega
   ·obtain rfl : Y = 0 := HY0.out (by omega)
    have hk2 : ¬ (k : Int) < m := by omega
    obtain rfl : D1 = D2 := by omega
    clear hD1 hD2
    go_wp2_with fail
    go_roundw
    case rel =>
     have e5 : ((D1 / 9223372036854775808 : Nat) : Int) = (D1 : Int) / 9223372036854775808 := by omega
     have e6 : ((D1 % 4294967296 : Nat) : Int) = (D1 : Int) % 4294967296 := by omega
     refine ⟨k + 1, D1 / 9223372036854775808, r.set k (D1 % 4294967296), by omega, by go_num, by rw [e5], ?_, HST.out, Ext.setCell (p := ⟨G, k, none⟩) HX.out HGL.out _⟩
     have h := HB2.out.set k (.int .u32 ((D1 % 4294967296 : Nat) : Int))
     rw [ucells_set, e6] at h
     exact h
    case measure => simp [intOf]; omega
  ·obtain rfl : n = k := by omega
   have hdn := (show SubI a b r a.length a.length c from by rw [HN.out]; exact HI.out).done (by rw [HN.out, HM.out]; exact HMN.out) (by rw [HXN.out, HYN.out]; omega)
   have hT := trim_any (some ⟨G, 0, none⟩) n n r wr (lims_blk (R := []) (by rw [List.append_nil]; exact HB2.out)) HI.out.ok HRL.out (Nat.le_refl _) (by omega)
   rw [hdn, HXN.out, HYN.out] at hT
   have HT := Lib.hid hT
   clear hT hdn
   go_wp2_with fail
   refine (HT.out).mono ?_
   rintro e w5 ⟨v5, rfl, hv5, he5⟩
   go_wp2_with fail
   go_ret2
   exact ⟨fun h => absurd h hc, fun _ => ⟨v5, rfl, hv5, HX2.out.trans (HX3.out.trans (HX.out.trans he5))⟩⟩
/- the bound of divisors -/
def DB : Nat := 18446744073709551616
/- at most k limbs -/
def Sz (k n : Nat) : Prop := n < 4294967296 ^ k
theorem Sz.len {k n : Nat} (h : Sz k n) (hk : k ≤ 1000) : (limbs n).length ≤ 1000 := Nat.le_trans (limbs_le h) hk
theorem Sz.mono {k j n : Nat} (h : Sz k n) (hk : k ≤ j) : Sz j n := Nat.lt_of_lt_of_le h (Nat.pow_le_pow_right (by omega) hk)
theorem Sz.mul {k j n m : Nat} (h : Sz k n) (h' : Sz j m) : Sz (k + j) (n * m) := by
 unfold Sz at *
 rw [Nat.pow_add]
 have h1 : n * m ≤ n * 4294967296 ^ j := Nat.mul_le_mul_left _ (Nat.le_of_lt h')
 have h2 : n * 4294967296 ^ j < 4294967296 ^ k * 4294967296 ^ j := Nat.mul_lt_mul_of_pos_right h (Nat.pow_pos (by omega))
 omega
theorem Sz.add {k n m : Nat} (h : Sz k n) (h' : Sz k m) : Sz (k + 1) (n + m) := by
 unfold Sz at *
 rw [Nat.pow_succ]
 omega
theorem sz_db {n : Nat} (h : n < DB) : Sz 20 n := Nat.lt_of_lt_of_le h (by unfold DB; exact Nat.le_trans (by decide : 18446744073709551616 ≤ 4294967296 ^ 2) (Nat.pow_le_pow_right (by omega) (by omega)))
theorem ndiv_db (u v : Value) (x y : Nat) (w : World) (hu : NatAt w u x) (hv : NatAt w v y) (hx : (limbs x).length ≤ 1000) (hy0 : 0 < y) (hy : y < DB) : Calls Tryz.prog 148 #[u, v] w (RetDv w x y) := ndiv_64 u v x y w hu hv hx hy0 hy
theorem ngcd_db (u v : Value) (x y : Nat) (w : World) (hu : NatAt w u x) (hv : NatAt w v y) (hx : (limbs x).length ≤ 1000) (hy : y < DB) : Calls Tryz.prog 147 #[u, v] w (RetNt w (Nat.gcd x y)) := ngcd_64 u v x y w hu hv hx hy
/- values -/
def IsRaw (neg : Bool) (n : Nat) : Value → World → Prop := fun v w => ∃ u, v = .agg #[.bool neg, u] ∧ NatAt w u n
theorem IsRaw.kp (neg : Bool) (n : Nat) : Kp (IsRaw neg n) := fun v w w' he h => by
 obtain ⟨u, h1, h2⟩ := h; exact ⟨u, h1, h2.ext he⟩
def IsZ (z : Int) : Value → World → Prop := IsRaw (negI z) z.natAbs
theorem IsZ.kp (z : Int) : Kp (IsZ z) := IsRaw.kp _ _
theorem NatAt.form {w : World} {u : Value} {n : Nat} (h : NatAt w u n) : ∃ A k c, u = .slice A k c := by
 obtain ⟨A, c, e, _⟩ := h; exact ⟨A, _, c, e⟩
theorem isZ_of {neg : Bool} {x : Nat} {u : Value} {w : World} {b : Bool} (hb : b = (neg && decide (0 < x))) (h : NatAt w u x) : IsZ (sgI neg x) (.agg #[.bool b, u]) w :=
 ⟨u, by rw [hb, negI_sgI], by rw [sgI_abs]; exact h⟩
/- a block without limbs may turn -/
def nou (cs : List Value) : Bool := cs.all fun v => match v with
 | .int .u32 _ => false
 |_ => true
theorem nou_get {cs : List Value} (h : nou cs = true) {j : Nat} {z : Int} (hj : cs[j]? = some (.int .u32 z)) : False := by
 have := List.all_eq_true.1 h _ (List.mem_of_getElem? hj)
 simp at this
theorem NatAt.other {t : TypeId} {w w' : World} {G : Nat} {cs : List Value} {v : Value} {n : Nat} (h : NatAt w v n) (hb : Blk t w G cs) (hn : nou cs = true) (k : Kept (fun b => b = G) w w') : NatAt w' v n := by
 obtain ⟨A, c, e, h1, h2, h3⟩ := h
 refine ⟨A, c, e, fun j hj => ?_, h2, h3⟩
 obtain ⟨b, off, e1, h4⟩ := h1 j hj
 refine ⟨b, off, e1, ?_⟩
 have hbG : b ≠ G := by
  rintro rfl
  rw [hb.cell] at h4
  exact nou_get hn h4
 have hl : b < w.heap.size := cell_lt h4
 have e2 := k.block b hl hbG
 unfold World.cell? at h4 ⊢
 simp only at h4 ⊢
 rw [e2]; exact h4
theorem kext {w w1 w3 : World} {G : Nat} (hx : Ext w w1) (hG : w.heap.size ≤ G) (k : Kept (fun b => b = G) w1 w3) : Ext w w3 := k.ext hx (fun b e => by subst e; exact hG)
theorem ks2 (w : World) (G : Nat) (u0 u1 : Value) : Kept (fun b => b = G) w ((w.setCell ⟨G, 0, none⟩ u0).setCell ⟨G, 1, none⟩ u1) := kset (kset (Kept.refl _ _) _ _) _ _
theorem ks3 (w : World) (G : Nat) (u0 u1 u2 : Value) : Kept (fun b => b = G) w (((w.setCell ⟨G, 0, none⟩ u0).setCell ⟨G, 1, none⟩ u1).setCell ⟨G, 2, none⟩ u2) := kset (kset (kset (Kept.refl _ _) _ _) _ _) _ _
end Go.Proofs.YtfegbaokcbjllaaGreat
