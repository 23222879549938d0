/- garmentlaw23.awake -/
import Derived.Test.YtliijigdbpmpaaaKSameK
namespace Go.Proofs.Ytliijigdbpmpaaa
open Go.RowKit
theorem wd_sty {W : World} {bM bP bK b : Nat} {ms : List Int} {rev : Bool} (hM : Blk 3 W bM (icells ms)) (hB : WdB W b 2000) (hP : Blk 27 W bP (wdA b).cells) (hK : Blk 53 W bK [.int .i64 0, .int .i64 0, .int .i64 0, .int .i64 0, .bool rev, .int .i64 0]) (hl : ms.length ≤ 2) :
    StyAt W ⟨⟨#[]⟩, none, 0, 0, some ⟨bM, 0, none⟩, ms.length, ms.length, some ⟨bP, 0, none⟩, 1, 1, none, 0, 0, some ⟨bK, 0, none⟩, 1, 1, none, 0, 0⟩ ⟨ms, [wdP], [⟨0, 0, 0, 0, rev, 0⟩]⟩ := by
  refine ⟨(OwnI.plain (own_of_int (base := 0) (L := ms) hM (Nat.zero_le _) (by omega))).2.1, fun k hk' => ?_, fun k hk' => ?_, rfl, rfl, rfl, by simp only; omega, by simp only; omega, by simp only; omega⟩
  · match k, hk' with
    | 0, _ => exact ⟨bP, 0, wdA b, rfl, hB.at, hP.cell 0, hP.cell 1, hP.cell 2, hP.cell 3, hP.cell 4, hP.cell 5, hP.cell 6⟩
  · match k, hk' with
    | 0, _ => exact ⟨bK, 0, rfl, hK.cell 0, hK.cell 1, hK.cell 2, hK.cell 3, hK.cell 4, hK.cell 5⟩
set_option maxRecDepth 100000 in
set_option maxHeartbeats 3200000 in
theorem awake_any (w : World) : Calls Try.prog 10 #[] w fun e w' => e = .returned (.bool true) ∧ Ext w w' := by
  go_enter Try.func10, Try.ntmps10
  go_wp2_with fail
  refine (wedge_any _).mono ?_
  rintro e w1 ⟨rfl, hB, he1⟩
  have hp := hB.at
  generalize wdA (w.heap.size + 1) = a1 at hp ⊢
  clear hB
  go_wp2_with fail
  refine (placedS_any a1 wdP 0 _ hp).mono ?_
  rintro e w2 ⟨A1, n1, c1, rfl, ho, he2⟩
  obtain ⟨ho, hn⟩ := ho wd_e0
  obtain rfl : n1 = 2 := hn
  rw [wd_e0]
  rw [wd_l0] at ho
  have HO1 := Lib.hid ho
  have HX2 := Lib.hid (he1.trans he2)
  clear ho hp he1 he2
  go_wp2_with fail
  refine (wedge_any _).mono ?_
  rintro e w3 ⟨rfl, hB, he1⟩
  have hp := hB.at
  generalize wdA (w2.heap.size + 1) = a2 at hp ⊢
  clear hB
  go_wp2_with fail
  refine (placedS_any a2 wdP 1 _ hp).mono ?_
  rintro e w4 ⟨A2, n2, c2, rfl, ho, he2⟩
  obtain ⟨ho, hn⟩ := ho wd_e1
  obtain rfl : n2 = 2 := hn
  rw [wd_e1]
  rw [wd_l1] at ho
  have HO2 := Lib.hid ho
  have HX4 := Lib.hid (he1.trans he2)
  clear ho hp he1 he2
  go_wp2_with fail
  refine (wedge_any _).mono ?_
  rintro e w5 ⟨rfl, hB, he1⟩
  have hp := hB.at
  generalize wdA (w4.heap.size + 1) = a3 at hp ⊢
  clear hB
  go_wp2_with fail
  refine (spots_any a3 wdP 1 _ hp).mono ?_
  rintro e w6 ⟨v3, rfl, ho, _, he2⟩
  have ho := ho wd_e1
  rw [wd_e1]
  rw [wd_s1] at ho
  obtain ⟨A3, c3, hv, hS, _⟩ := OwnT.slice' (n := 2) ho rfl
  subst hv
  have HS3 := Lib.hid hS
  have HX6 := Lib.hid (he1.trans he2)
  clear ho hp he1 he2 hS
  go_wp2_with fail
  refine (wedge_any _).mono ?_
  rintro e w7 ⟨rfl, hB, he1⟩
  generalize (World.alloc w6 (.cells #[.int .i64 0, .int .i64 1] 3)).heap.size + 1 = b7 at hB ⊢
  have HBw7 := Lib.hid hB
  have HMw7 : Hid (Blk 3 w7 w6.heap.size (icells [0, 1])) := (Blk.new' rfl).ext he1
  have HXw7 : Hid (Ext w6 w7) := ((Ext.refl _).alloc _).trans he1
  clear hB he1
  simp only [wdA, PcA.val]
  go_upto_region 5 with fail
  refine wp_at fun w8 hw8 => ?_
  have HXw8 : Hid (Ext w7 w8) := by show Ext _ _; rw [hw8]; exact (((Ext.refl _).alloc _).alloc _).alloc _
  have HPw8 : Hid (Blk 27 w8 w7.heap.size (wdA b7).cells) := by show Blk _ _ _ _; rw [hw8]; exact ((Blk.new' rfl).ext (ext1 _ _)).ext (ext1 _ _)
  have HKw8 : Hid (Blk 53 w8 (w7.heap.size + 1) [.int .i64 0, .int .i64 0, .int .i64 0, .int .i64 0, .bool false, .int .i64 0]) := by show Blk _ _ _ _; rw [hw8]; exact (Blk.new' (by simp)).ext (ext1 _ _)
  have HTw8 : Hid (Blk 59 w8 (w7.heap.size + 1 + 1) [.string ⟨#[]⟩, .slice none 0 0, .slice (some ⟨w6.heap.size, 0, none⟩) 2 2, .slice (some ⟨w7.heap.size, 0, none⟩) 1 1, .slice none 0 0, .slice (some ⟨w7.heap.size + 1, 0, none⟩) 1 1, .slice none 0 0]) := by show Blk _ _ _ _; rw [hw8]; exact Blk.new' (by simp)
  have HYw8 := Lib.hid (wd_sty (HMw7.out.ext HXw8.out) (HBw7.out.ext HXw8.out) HPw8.out HKw8.out (by decide))
  clear hw8 HPw8 HKw8 HMw7 HBw7
  obtain ⟨t0, t1, t2, t3, t4, t5, t6⟩ := blk7 HTw8.out
  go_wp2_with fail
  refine (unmatched_any _ wdS 1 _ HYw8.out (Nat.le_of_ble_eq_true rfl)).mono ?_
  rintro e w9 ⟨v4, rfl, ho, _, he2⟩
  have ho := ho wd_se
  rw [wd_se]
  rw [wd_sl] at ho
  obtain ⟨A4, c4, hv, _⟩ := OwnK.slice' (n := 0) ho rfl
  subst hv
  have HX9 := Lib.hid ((HXw7.out.trans HXw8.out).trans he2)
  clear ho he2 t0 t1 t2 t3 t4 t5 t6 HYw8 HTw8 HXw7 HXw8
  go_wp2_with fail
  refine (wedge_any _).mono ?_
  rintro e w10 ⟨rfl, hB, he1⟩
  generalize (World.alloc w9 (.cells #[.int .i64 0] 3)).heap.size + 1 = b10 at hB ⊢
  have HBw10 := Lib.hid hB
  have HMw10 : Hid (Blk 3 w10 w9.heap.size (icells [0])) := (Blk.new' rfl).ext he1
  have HXw10 : Hid (Ext w9 w10) := ((Ext.refl _).alloc _).trans he1
  clear hB he1
  simp only [wdA, PcA.val]
  go_upto_region 7 with fail
  refine wp_at fun w11 hw11 => ?_
  have HXw11 : Hid (Ext w10 w11) := by show Ext _ _; rw [hw11]; exact (((Ext.refl _).alloc _).alloc _).alloc _
  have HPw11 : Hid (Blk 27 w11 w10.heap.size (wdA b10).cells) := by show Blk _ _ _ _; rw [hw11]; exact ((Blk.new' rfl).ext (ext1 _ _)).ext (ext1 _ _)
  have HKw11 : Hid (Blk 53 w11 (w10.heap.size + 1) [.int .i64 0, .int .i64 0, .int .i64 0, .int .i64 0, .bool true, .int .i64 0]) := by show Blk _ _ _ _; rw [hw11]; exact (Blk.new' (by simp)).ext (ext1 _ _)
  have HTw11 : Hid (Blk 59 w11 (w10.heap.size + 1 + 1) [.string ⟨#[]⟩, .slice none 0 0, .slice (some ⟨w9.heap.size, 0, none⟩) 1 1, .slice (some ⟨w10.heap.size, 0, none⟩) 1 1, .slice none 0 0, .slice (some ⟨w10.heap.size + 1, 0, none⟩) 1 1, .slice none 0 0]) := by show Blk _ _ _ _; rw [hw11]; exact Blk.new' (by simp)
  have HYw11 := Lib.hid (wd_sty (HMw10.out.ext HXw11.out) (HBw10.out.ext HXw11.out) HPw11.out HKw11.out (by decide))
  clear hw11 HPw11 HKw11 HMw10 HBw10
  obtain ⟨t0, t1, t2, t3, t4, t5, t6⟩ := blk7 HTw11.out
  go_wp2_with fail
  refine (unmatched_any _ wdT 0 _ HYw11.out (Nat.le_of_ble_eq_true rfl)).mono ?_
  rintro e w12 ⟨v4, rfl, ho, _, he2⟩
  have ho := ho wd_te
  rw [wd_te]
  rw [wd_tl] at ho
  obtain ⟨A5, c5, hv, hI⟩ := OwnK.slice' (n := 2) ho rfl
  subst hv
  have HI5 := Lib.hid hI
  have HX12 := Lib.hid ((HXw10.out.trans HXw11.out).trans he2)
  have HY12 := Lib.hid (HYw11.out.ext he2)
  have HT12 := Lib.hid (HTw11.out.ext he2)
  clear ho he2 t0 t1 t2 t3 t4 t5 t6 hI
  obtain ⟨t0, t1, t2, t3, t4, t5, t6⟩ := blk7 HT12.out
  go_wp2_with fail
  refine (unmatched_any _ wdT 1 _ HY12.out (Nat.le_of_ble_eq_true rfl)).mono ?_
  rintro e w13 ⟨v6, rfl, _, ho, he2⟩
  have ho := ho (by rw [wd_t1]; decide)
  subst ho
  rw [wd_t1]
  have HX13 := Lib.hid he2
  clear he2 t0 t1 t2 t3 t4 t5 t6 HYw11 HTw11 HY12 HT12
  go_wp2_with fail
  refine (wedge_any _).mono ?_
  rintro e w14 ⟨rfl, hB, he1⟩
  have hge : w13.heap.size < w13.heap.size + 1 := by omega
  generalize w13.heap.size + 1 = b14 at hB hge ⊢
  have HB14 := Lib.hid hB
  have HX14 := Lib.hid he1
  have hlb : b14 + 1 + 1 + 1 + 1 < w14.heap.size := hB.n.lt
  clear hB he1
  simp only [wdA, PcA.val]
  go_upto_region 10 with fail
  refine wp_at fun w15 hw15 => ?_
  have HX15 : Hid (Ext w14 w15) := by show Ext _ _; rw [hw15]; exact (Ext.refl _).alloc _
  have HP15 : Hid (Blk 27 w15 w14.heap.size (wdA b14).cells) := by show Blk _ _ _ _; rw [hw15]; exact Blk.new' rfl
  have HB15 := Lib.hid (HB14.out.ext HX15.out)
  clear hw15
  have hp3 := HP15.out.cell 3
  simp only [PcA.cells, wdA, List.getElem?_cons_succ, List.getElem?_cons_zero] at hp3
  have hn1 := HB15.out.n.cell 1
  have hf1 := HB15.out.n.frozen 1
  simp only [scells, List.flatMap_cons, List.flatMap_nil, List.append_nil, List.cons_append, List.nil_append, List.getElem?_cons_succ, List.getElem?_cons_zero] at hn1
  go_upto_region 11 with fail
  refine wp_at fun w16 hw16 => ?_
  have HB16 : Hid (WdB w16 b14 8001) := by
    show WdB _ _ _
    rw [hw16]
    have h := HB15.out
    exact ⟨h.h.other (by simp only; omega) _, h.s.other (by simp only; omega) _, h.e.other (by simp only; omega) _, h.c.other (by simp only; omega) _, h.n.set 1 _⟩
  have HP16 : Hid (Blk 27 w16 w14.heap.size (wdA b14).cells) := by show Blk _ _ _ _; rw [hw16]; exact HP15.out.other (by simp only; omega) _
  have HX16 : Hid (Ext w13 w16) := by show Ext _ _; rw [hw16]; exact (HX14.out.trans HX15.out).setCell (by simp only; omega) _
  clear hw16 hn1 hf1 hp3
  obtain ⟨p0, p1, p2, p3, p4, p5, p6⟩ := blk7 HP16.out
  simp only [wdA] at p0 p1 p2 p3 p4 p5 p6
  clear hge hlb
  go_wp2_with fail
  refine (placedS_any (wdA b14) wdB 0 _ HB16.out.at).mono ?_
  rintro e w17 ⟨A7, n7, c7, rfl, _, he2⟩
  rw [wd_eb]
  have HI7 := Lib.hid (HI5.out.ext ((HX13.out.trans HX16.out).trans he2))
  have HX17 := Lib.hid ((((HX9.out.trans HX12.out).trans HX13.out).trans HX16.out).trans he2)
  clear p0 p1 p2 p3 p4 p5 p6 he2
  obtain ⟨b3, o3, hA3, s0, s1⟩ := (HS3.out.ext HX17.out).g (k := 0) (by decide)
  subst hA3
  simp only [gS, List.getD_cons_zero, Nat.zero_mul, Nat.add_zero] at s0 s1
  go_wp2_with fail
  have HY17 := Lib.hid ((HX4.out.trans HX6.out).trans HX17.out)
  have HI1 := Lib.hid ((OwnI.plain (own_ext HO1.out HY17.out)).2.1)
  have HI2 := Lib.hid ((OwnI.plain (own_ext HO2.out (HX6.out.trans HX17.out))).2.1)
  refine (sameInts_eq A1 _ 2 c1 2 [2000, 6000] _ (HI1.out.ext (ext1 _ _)) (OwnI.plain (own_of_int (base := 0) (L := [2000, 6000]) (Blk.new' rfl) (Nat.zero_le _) (by decide))).2.1 rfl (by omega)).mono ?_
  rintro e w18 ⟨rfl, he1⟩
  have HX18 := Lib.hid ((ext1 w17 _).trans he1)
  clear he1 s0 s1
  go_wp2_with fail
  refine (sameInts_eq A2 _ 2 c2 2 [3000, 6744] _ (HI2.out.ext (HX18.out.trans (ext1 _ _))) (OwnI.plain (own_of_int (base := 0) (L := [3000, 6744]) (Blk.new' rfl) (Nat.zero_le _) (by decide))).2.1 rfl (by omega)).mono ?_
  rintro e w19 ⟨rfl, he1⟩
  have HX19 := Lib.hid ((HX18.out.trans (ext1 w18 _)).trans he1)
  clear he1
  go_wp2_with fail
  refine (sameIss_eq A5 _ 2 c5 2 [(1, 0, 0), (2, 0, 0)] _ (HI7.out.ext (HX19.out.trans (ext1 _ _))) (IssAt.blk (t := 69) (Blk.new' rfl)) rfl (by omega)).mono ?_
  rintro e w20 ⟨rfl, he1⟩
  have HX20 := Lib.hid ((HX19.out.trans (ext1 w19 _)).trans he1)
  clear he1
  go_wp2_with fail
  go_ret
  exact ⟨rfl, (HX2.out.trans HY17.out).trans HX20.out⟩
end Go.Proofs.Ytliijigdbpmpaaa
