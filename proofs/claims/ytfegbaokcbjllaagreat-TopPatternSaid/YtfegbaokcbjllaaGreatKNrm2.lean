/- polygon.Normal. Written by gennrm.py. -/
import Derived.Lib.AppendZeros
import Derived.Deep.RegionHeld3
import Derived.Deep.CutRange
import Derived.IntWalk
import Derived.Test.YtfegbaokcbjllaaGreatKRev
import Derived.Test.YtfegbaokcbjllaaGreatKAlw5
/- slices.Grow on nil, slices.Concat of two rows of spots -/
namespace Go.Proofs.YtfegbaokcbjllaaGreat
open Go.RowKit
set_option maxRecDepth 100000 in
set_option maxHeartbeats 1600000 in
theorem grow_any (n : Nat) (w : World) (h0 : 0 < n) (hn : n ≤ 100000) : Calls Tryz.prog 66 #[.slice none 0 0, .int .i64 (n : Int)] w (RetS w []) := by
 obtain ⟨i0, hi0, hz0, hz1, hz2⟩ := info_parts spot_info
 have hr : ∀ (ty : TypeId) (W : World), (Builtin.append_ #[38, 3] ty #[.slice none 0 0, .int .i64 n]).run Tryz.prog W = .ok (.slice (some ⟨W.heap.size, 0, none⟩) n (grownCap W n 0 49)) (W.drew.alloc (.cells (Builtin.zeroCells (Value.agg #[.int .i64 0, .int .i64 0]).cells n ++ Builtin.zeroCells (Value.agg #[.int .i64 0, .int .i64 0]).cells (grownCap W n 0 49 - n)) 49)) := fun ty W => Lib.run_append_nil_zeros (P := Tryz.prog) W 38 3 ty 49 i0 (.agg #[.int .i64 0, .int .i64 0]) .i64 .i64 Tryz.underlying38 (by kernel_rfl) hi0 hz0 n h0 (by rw [hz1]; omega) (by omega) (by rw [hz2]; omega)
 have hpos : (0 : Int) < (n : Int) := by omega
 have HG := Lib.hid (grownCap_ge w n 0 49)
 have HGM := Lib.hid (grownCap_le_maxLen w n 0 49 (by unfold maxLen; omega))
 have HR := Lib.hid hr
 clear hr
 obtain ⟨C, hC⟩ : ∃ C, C = grownCap w n 0 49 := ⟨_, rfl⟩
 rw [← hC] at HG HGM
 have HC := Lib.hid hC
 clear hC
 have hc0 : (0 : Int) ≤ C := by omega
 have h00 : (0 : Int) ≤ (0 : Int) := by omega
 go_enter Tryz.func66, Tryz.ntmps66
 go_wp2_with (at_builtin; refine Lib.wpList_append_run _ rfl (.tmp 20) (.tmp 21) 38 3 rfl (.slice none 0 0) (.int .i64 n) rfl rfl _ _ (HR.out _ _) ?_)
 all_goals rw [← HC.out]
 go_ret
 refine ⟨_, rfl, ⟨rfl, .inr ⟨w.heap.size, C, _, rfl, Nat.le_refl _, heap_alloc_new _ _, Nat.zero_le _, HGM.out, ?_, by simp [scells]⟩⟩, ((Ext.refl _).drew).alloc _⟩
 simp only [Array.size_append, size_zeroCells]
 have := HG.out
 simp [Value.cells]
 omega
set_option maxRecDepth 100000 in
set_option maxHeartbeats 1600000 in
theorem concat_any (g n1 c1 n2 c2 p1 o1 p2 o2 : Nat) (l1 l2 : List Spot) (w : World) (hb : Blk 38 w g [.slice (some ⟨p1, o1, none⟩) n1 c1, .slice (some ⟨p2, o2, none⟩) n2 c2]) (h1 : SpotsAt w (some ⟨p1, o1, none⟩) l1) (h2 : SpotsAt w (some ⟨p2, o2, none⟩) l2) (hl1 : l1.length = n1) (hl2 : l2.length = n2) (h0 : 0 < n1 + n2) (hn : n1 + n2 ≤ 1000) :
  Calls Tryz.prog 35 #[.slice (some ⟨g, 0, none⟩) 2 2] w (RetS w (l1 ++ l2)) := by
 have HB := Lib.hid hb; have H1 := Lib.hid h1; have H2 := Lib.hid h2; have HL1 := Lib.hid hl1; have HL2 := Lib.hid hl2
 clear hb h1 h2 hl1 hl2
 obtain ⟨i0, hi0, hz0, hz1, hz2⟩ := info_parts spot_info
 go_enter Tryz.func35, Tryz.ntmps35
 go_wp2_with fail
 go_loopw [3, 11] (fun s i wr => ∃ k : Nat, k ≤ 2 ∧ i = .int .i64 k ∧ s = .int .i64 ((if k = 0 then 0 else if k = 1 then n1 else n1 + n2 : Nat) : Int) ∧ wr = w) (fun _ i _ => 2 - (intOf i).toNat)
 case atStart => exact ⟨0, by omega, rfl, rfl, rfl⟩
 case round =>
  obtain ⟨k, hk, rfl, rfl, hwr⟩ := hrel
  have hw' := hwr.symm
  subst hw'
  have b0 := HB.out.cell 0; have b1 := HB.out.cell 1
  simp only [List.getElem?_cons_zero, List.getElem?_cons_succ] at b0 b1
  have hk3 : k = 0 ∨ k = 1 ∨ k = 2 := by omega
  rcases hk3 with rfl | rfl | rfl
  ·have hn1 : ¬ (n1 : Int) < 0 := by omega
   rw [if_pos rfl]
   go_wp2_with fail
   go_roundw
   case rel => exact ⟨1, by omega, by go_num, by simp, by first | exact hwr | trivial⟩
   case measure => simp [intOf]
  ·have hn1 : ¬ ((n1 : Int) + n2) < 0 := by omega
   rw [if_neg (by omega), if_pos rfl]
   go_wp2_with fail
   go_roundw
   case rel => exact ⟨2, by omega, by go_num, by simp, by first | exact hwr | trivial⟩
   case measure => simp [intOf]
  ·rw [if_neg (by omega), if_neg (by omega)]
   go_wp2_with fail
   have hsum : ((n1 : Int) + n2) = ((n1 + n2 : Nat) : Int) := by omega
   rw [hsum]
   refine (grow_any (n1 + n2) w h0 (by omega)).mono ?_
   rintro e w1 ⟨v1, rfl, hv1, he1⟩
   have HO1 := Lib.hid hv1; have HX1 := Lib.hid he1
   clear hv1 he1 hsum
   go_wp2_with fail
   go_loopw [6, 27] (fun v i wr => ∃ k : Nat, k ≤ 2 ∧ i = .int .i64 k ∧ OwnS wr w.heap.size v (if k = 0 then [] else if k = 1 then l1 else l1 ++ l2) ∧ Ext w wr) (fun _ i _ => 2 - (intOf i).toNat)
   case atStart => exact ⟨0, by omega, rfl, HO1.out, HX1.out⟩
   case round =>
    obtain ⟨wi, rfl⟩ : ∃ wi : World, wi = wr := ⟨_, rfl⟩
    obtain ⟨k, hk, rfl, ho, hx⟩ := hrel
    have HX := Lib.hid hx
    clear hx b0 b1
    have b0 : wi.cell? ⟨g, 0, none⟩ = some (.slice (some ⟨p1, o1, none⟩) n1 c1) := HX.out.cell (HB.out.cell 0)
    have b1 : wi.cell? ⟨g, 1, none⟩ = some (.slice (some ⟨p2, o2, none⟩) n2 c2) := HX.out.cell (HB.out.cell 1)
    have hk3 : k = 0 ∨ k = 1 ∨ k = 2 := by omega
    rcases hk3 with rfl | rfl | rfl
    ·rw [if_pos rfl] at ho
     have HO := Lib.hid ho
     clear ho
     have HO' : Hid (wi.ownsRow w.heap.size 49 2 u6 0 (scells [])) := HO.out
     go_wp2_with (at_builtin; refine wpList_append_own _ rfl (.tmp 31) (.tmp 32) 38 rfl w.heap.size 49 i0 (.agg #[.int .i64 0, .int .i64 0]) 2 16 Tryz.underlying38 hi0 hz0 hz1 hz2 rfl (by decide) _ 0 (scells []) rfl HO'.out ⟨p1, o1, none⟩ n1 c1 (scells l1) rfl ?c1 ?c2 ?c3 ?c4 ?c5 ?c6 ?_)
     case c1 => rw [scells_length, HL1.out]
     case c2 => exact (H1.out.ext HX.out).cells
     case c3 => exact scells_one' _
     case c4 => unfold maxLen; have := hn; omega
     case c5 => have := hn; omega
     case c6 => exact HX.out.size
     intro v' w4 hown' hgrow _
     have hO' : OwnS w4 w.heap.size v' l1 := by
      unfold OwnS
      rw [HL1.out]
      simpa [scells] using hown'
     have hx' : Ext w w4 := HX.out.grown hgrow (fun g hg => (World.ownsRow.lt HO.out g hg).1)
     have HO4 := Lib.hid hO'; have HX4 := Lib.hid hx'
     clear hO' hown' hgrow hx' b0 b1
     go_wp2_with fail
     go_roundw
     case rel => exact ⟨1, by omega, by go_num, by simpa using HO4.out, HX4.out⟩
     case measure => simp [intOf]
    ·rw [if_neg (by omega), if_pos rfl] at ho
     have HO := Lib.hid ho
     clear ho
     have HO' : Hid (wi.ownsRow w.heap.size 49 2 u6 l1.length (scells l1)) := HO.out
     go_wp2_with (at_builtin; refine wpList_append_own _ rfl (.tmp 31) (.tmp 32) 38 rfl w.heap.size 49 i0 (.agg #[.int .i64 0, .int .i64 0]) 2 16 Tryz.underlying38 hi0 hz0 hz1 hz2 rfl (by decide) _ l1.length (scells l1) rfl HO'.out ⟨p2, o2, none⟩ n2 c2 (scells l2) rfl ?c1 ?c2 ?c3 ?c4 ?c5 ?c6 ?_)
     case c1 => rw [scells_length, HL2.out]
     case c2 => exact (H2.out.ext HX.out).cells
     case c3 => exact scells_one' _
     case c4 => unfold maxLen; have := HL1.out; omega
     case c5 => have := HL1.out; omega
     case c6 => exact HX.out.size
     intro v' w4 hown' hgrow _
     have hO' : OwnS w4 w.heap.size v' (l1 ++ l2) := by
      unfold OwnS
      rw [scells_append, List.length_append, HL2.out]
      exact hown'
     have hx' : Ext w w4 := HX.out.grown hgrow (fun g hg => (World.ownsRow.lt HO.out g hg).1)
     have HO4 := Lib.hid hO'; have HX4 := Lib.hid hx'
     clear hO' hown' hgrow hx' b0 b1
     go_wp2_with fail
     go_roundw
     case rel => exact ⟨2, by omega, by go_num, by simpa using HO4.out, HX4.out⟩
     case measure => simp [intOf]
    ·rw [if_neg (by omega), if_neg (by omega)] at ho
     have HO := Lib.hid ho
     clear ho
     go_wp2_with fail
     go_ret
     exact ⟨_, rfl, HO.out, HX.out⟩
def bendV (l : List Spot) (i : Nat) : Int := cross (gS l ((i + l.length - 1) % l.length)) (gS l i) (gS l ((i + 1) % l.length))
set_option maxRecDepth 100000 in
set_option maxHeartbeats 1600000 in
theorem bend_any (A : Option Addr) (n c k : Nat) (l : List Spot) (w : World) (ha : SpotsAt w A l) (hl : l.length = n) (hn : n ≤ 1000) (hk : k < n) :
  Calls Tryz.prog 32 #[.slice A n c, .int .i64 (k : Int)] w fun e w' => e = .returned (.int .i64 (bendV l k)) ∧ Ext w w' := by
 have HV : Hid (bendV l k = cross (gS l ((k + n - 1) % n)) (gS l k) (gS l ((k + 1) % n))) := by show _ = _; unfold bendV; rw [hl]
 obtain ⟨b, off, rfl, hc0, hc1⟩ := ha.g (k := k) (by omega)
 have hm1 : (k + 1) % n < n := Nat.mod_lt _ (by omega)
 obtain ⟨ix, hix⟩ : ∃ ix, ix = (k + n - 1) % n := ⟨_, rfl⟩
 have hm2 : ix < n := by rw [hix]; exact Nat.mod_lt _ (by omega)
 obtain ⟨jx, hjx⟩ : ∃ jx, jx = (k + 1) % n := ⟨_, rfl⟩
 rw [← hjx] at hm1
 rw [← hix, ← hjx] at HV
 obtain ⟨hd0, hd1⟩ := ha.at1 (k := jx) (by omega)
 obtain ⟨he0, he1⟩ := ha.at1 (k := ix) (by omega)
 obtain ⟨⟨px, py⟩, hp⟩ : ∃ p, p = gS l ix := ⟨_, rfl⟩
 obtain ⟨⟨qx, qy⟩, hq⟩ : ∃ p, p = gS l k := ⟨_, rfl⟩
 obtain ⟨⟨rx, ry⟩, hr⟩ : ∃ p, p = gS l jx := ⟨_, rfl⟩
 rw [← hp] at he0 he1 HV
 rw [← hq] at hc0 hc1 HV
 rw [← hr] at hd0 hd1 HV
 simp only at he0 he1 hc0 hc1 hd0 hd1
 have hw1 : IntKind.i64.wrap ((k : Int) + n) = (k : Int) + n := (IntWalk.i64_left _).trans (IntWalk.wrap64_in _ ⟨by omega, by omega⟩)
 have hw2 : IntKind.i64.wrap ((k : Int) + n - 1) = (k : Int) + n - 1 := (IntWalk.i64_left _).trans (IntWalk.wrap64_in _ ⟨by omega, by omega⟩)
 have hn0 : ((n : Int) == 0) = false := by simp; omega
 have hn0' : ¬ n = 0 := by omega
 have hr1 : ((k : Int) + n - 1).tmod n = (ix : Int) := by rw [hix, show (k : Int) + n - 1 = ((k + n - 1 : Nat) : Int) by omega]; rfl
 have hr2 : ((k : Int) + 1).tmod n = (jx : Int) := by rw [hjx, show (k : Int) + 1 = ((k + 1 : Nat) : Int) by omega]; rfl
 have hr1' : ((k : Int) + n - 1) % n = (ix : Int) := by rw [hix, show (k : Int) + n - 1 = ((k + n - 1 : Nat) : Int) by omega]; rfl
 have hr2' : ((k : Int) + 1) % n = (jx : Int) := by rw [hjx, show (k : Int) + 1 = ((k + 1 : Nat) : Int) by omega]; rfl
 have hi1 : (ix : Int) < n := by omega
 have hj1 : (jx : Int) < n := by omega
 have hk1 : (k : Int) < n := by omega
 clear hix hjx hp hq hr ha
 have z0 := fun z : After w => After.cell hc0 z
 have z1 := fun z : After w => After.cell hc1 z
 have z2 := fun z : After w => After.cell hd0 z
 have z3 := fun z : After w => After.cell hd1 z
 have z4 := fun z : After w => After.cell he0 z
 have z5 := fun z : After w => After.cell he1 z
 clear hc0 hc1 hd0 hd1 he0 he1
 go_enter Tryz.func32, Tryz.ntmps32
 go_upto_region 2 with fail
 refine region_ext (by kernel_rfl) (by kernel_rfl) ?_
 repeat (first | go_big_quiet_step ((go_at_call 65; exact after_call (cross_any (_, _) (_, _) (_, _) _))) | (go_big_quiet_want; go_simp; go_big_quiet_on))
 refine wpQuiet_nil ?_
 rintro w2 ⟨⟨_, hx2⟩, rfl⟩
 clear z0 z1 z2 z3 z4 z5
 go_wp2_with fail
 go_ret
 exact ⟨ret_int HV.out.symm, hx2⟩
def cornT (l : List Spot) : Nat → List Spot
 |0 => []
 |k + 1 => if bendV l k ≠ 0 then cornT l k ++ [gS l k] else cornT l k
theorem cornT_len (l : List Spot) : ∀ k, (cornT l k).length ≤ k
 |0 => Nat.le_refl _
 |k + 1 => by
  have := cornT_len l k
  unfold cornT
  split
  ·simp; omega
  ·omega
def lexB (s f : Spot) : Bool := decide (s.1 < f.1 ∨ (s.1 = f.1 ∧ s.2 < f.2))
def firstN (L : List Spot) : Nat → Nat
 |0 => 0
 |k + 1 => if lexB (gS L k) (gS L (firstN L k)) = true then k else firstN L k
theorem firstN_lt (L : List Spot) : ∀ k, firstN L k ≤ k - 1
 |0 => Nat.le_refl _
 |k + 1 => by
  have := firstN_lt L k
  unfold firstN
  split <;> omega
def normP (l : List Spot) : List Spot := (cornT l l.length).drop (firstN (cornT l l.length) (cornT l l.length).length) ++ (cornT l l.length).take (firstN (cornT l l.length) (cornT l l.length).length)
theorem spots_drop {w : World} {b f : Nat} {l : List Spot} (h : SpotsAt w (some ⟨b, 0, none⟩) l) : SpotsAt w (some ⟨b, f * 2, none⟩) (l.drop f) := SpotsAt.of_g fun k hk => by
 rw [List.length_drop] at hk
 obtain ⟨c0, c1⟩ := h.at1 (k := f + k) (by omega)
 have e : gS (l.drop f) k = gS l (f + k) := by simp [gS, List.getElem?_drop]
 rw [e]
 refine ⟨b, f * 2, rfl, ?_, ?_⟩
 ·rw [show f * 2 + k * 2 = 0 + (f + k) * 2 by omega]; exact c0
 ·rw [show f * 2 + k * 2 + 1 = 0 + (f + k) * 2 + 1 by omega]; exact c1
def mr (M : List Spot) : List Spot := M.drop (firstN M M.length) ++ M.take (firstN M M.length)
def normG (l : List Spot) : List Spot := mr (if areaTo l l.length < 0 then (cornT l l.length).reverse else cornT l l.length)
def RetNmG (w : World) (l : List Spot) (e : Ending) (w' : World) : Prop := ∃ v, e = .returned (.tuple #[v, .int .i64 (pcheck l)]) ∧ (pcheck l = 0 → OwnS w' w.heap.size v (normG l)) ∧ (pcheck l ≠ 0 → v = .slice none 0 0) ∧ Ext w w'
def RetNm (w : World) (l : List Spot) (e : Ending) (w' : World) : Prop := ∃ v, e = .returned (.tuple #[v, .int .i64 (pcheck l)]) ∧ (pcheck l = 0 → OwnS w' w.heap.size v (normP l)) ∧ (pcheck l ≠ 0 → v = .slice none 0 0) ∧ Ext w w'
def IsRow (t : TypeId) (cs : List Value) : Value → World → Prop := fun v w => ∃ g, v = .slice (some ⟨g, 0, none⟩) 2 2 ∧ Blk t w g cs
theorem IsRow.kp (t : TypeId) (cs : List Value) : Kp (IsRow t cs) := fun v w w' he h => by obtain ⟨g, h1, h2⟩ := h; exact ⟨g, h1, h2.ext he⟩
set_option maxRecDepth 100000 in
set_option maxHeartbeats 3200000 in
theorem normalG_any (A : Option Addr) (n c : Nat) (l : List Spot) (w : World) (ha : SpotsAt w A l) (hl : l.length = n) (hn : n ≤ c) (hne : pcheck l = 0 → cornT l n ≠ []) :
  Calls Tryz.prog 10 #[.slice A n c] w (RetNmG w l) := by
 have HL := Lib.hid hl; have HA := Lib.hid ha; have HNE := Lib.hid hne
 clear hl ha hne
 obtain ⟨i0, hi0, hz0, hz1, hz2⟩ := info_parts spot_info
 go_enter Tryz.func10, Tryz.ntmps10
 go_wp2_with fail
 refine (pcheck_any A n c l w HA.out HL.out hn).mono ?_
 rintro e w1 ⟨rfl, he1⟩
 have HX1 := Lib.hid he1
 clear he1
 by_cases hz : pcheck l = 0
 rotate_left
 ·have hzb : (pcheck l != 0) = true := by simp [hz]
  have HZ := Lib.hid hz; clear hz
  go_wp2_with fail
  go_ret2
  exact ⟨_, rfl, fun h => absurd h HZ.out, fun _ => rfl, HX1.out⟩
 have HZ := Lib.hid hz
 have hlen := pcheck_len hz
 rw [HL.out] at hlen
 have HCN := Lib.hid (HNE.out hz)
 rw [hz]
 clear hz HNE
 go_wp2_with fail
 go_loopw [5, 19] (fun v i wr => ∃ k : Nat, k ≤ n ∧ i = .int .i64 k ∧ OwnS wr w1.heap.size v (cornT l k) ∧ Ext w1 wr) (fun _ i _ => n - (intOf i).toNat)
 case atStart => exact ⟨0, Nat.zero_le _, rfl, OwnS.nil _ _, Ext.refl _⟩
 case round =>
  obtain ⟨wi, rfl⟩ : ∃ wi : World, wi = wr := ⟨_, rfl⟩
  obtain ⟨k, hk, rfl, ho, hx⟩ := hrel
  have HO := Lib.hid ho; have HX := Lib.hid hx
  clear ho hx
  by_cases hlt : k < n
  ·obtain ⟨b, off, rfl, hc0, hc1⟩ := (HA.out.ext (HX1.out.trans HX.out)).g (k := k) (by rw [HL.out]; exact hlt)
   have HCT : Hid (cornT l (k + 1) = if bendV l k ≠ 0 then cornT l k ++ [gS l k] else cornT l k) := rfl
   have HCL := Lib.hid (cornT_len l k)
   obtain ⟨LP, hLP⟩ : ∃ L, L = cornT l k := ⟨_, rfl⟩
   rw [← hLP] at HCT HCL HO
   obtain ⟨⟨rx, ry⟩, hr⟩ : ∃ s, s = gS l k := ⟨_, rfl⟩
   rw [← hr] at hc0 hc1 HCT
   simp only at hc0 hc1
   clear hLP hr
   go_wp2_with fail
   refine (bend_any (some ⟨b, off, none⟩) n c k l _ ((HA.out.ext (HX1.out.trans HX.out)).ext ((Ext.refl _).alloc _)) HL.out (by omega) hlt).mono ?_
   rintro e w2 ⟨rfl, he2⟩
   have hv2 : Blk 49 w2 wi.heap.size [.int .i64 rx, .int .i64 ry] := (Blk.new' rfl).ext he2
   have v0 := hv2.cell 0; have v1 := hv2.cell 1
   simp only [List.getElem?_cons_zero, List.getElem?_cons_succ] at v0 v1
   have hx2 : Ext wi w2 := ((Ext.refl _).alloc _).trans he2
   have HX2 := Lib.hid (HX.out.trans hx2)
   have HO2 := Lib.hid (own_ext HO.out hx2)
   clear he2 hx2 hv2 hc0 hc1
   obtain ⟨bv, hbv⟩ : ∃ z, z = bendV l k := ⟨_, rfl⟩
   rw [← hbv] at HCT ⊢
   clear hbv
   by_cases hbz : bv = 0
   ·have hbb : (bv != 0) = false := by simp [hbz]
    have HCE : Hid (cornT l (k + 1) = LP) := by show _ = _; rw [HCT.out, if_neg (fun h => h hbz)]
    clear hbz
    go_wp2_with fail
    go_roundw
    case rel => exact ⟨k + 1, by omega, by go_num, by rw [HCE.out]; exact HO2.out, HX2.out⟩
    case measure => simp [intOf]; omega
   ·have hbb : (bv != 0) = true := by simp [hbz]
    have HCE : Hid (cornT l (k + 1) = LP ++ [(rx, ry)]) := by show _ = _; rw [HCT.out, if_pos hbz]
    clear hbz
    go_wp2_with (at_builtin; refine wpList_append_own _ rfl (.tmp 28) (.tmp 30) 38 rfl w1.heap.size 49 i0 (.agg #[.int .i64 0, .int .i64 0]) 2 16 Tryz.underlying38 hi0 hz0 hz1 hz2 rfl (by decide) _ LP.length (scells LP) rfl (World.ownsRow.alloc HO2.out _) ⟨w2.heap.size, 0, none⟩ 1 1 [.int .i64 rx, .int .i64 ry] rfl ?c1 ?c2 ?c3 ?c4 ?c5 ?c6 ?_)
    case c1 => rfl
    case c2 => exact World.news_of_block (cs := #[.int .i64 rx, .int .i64 ry]) (t := 49) (fr := (0, 0)) (heap_alloc_new w2 _)
    case c3 => simp [Value.oneCell']
    case c4 => have := HCL.out; unfold maxLen; omega
    case c5 => have := HCL.out; omega
    case c6 => have := HX2.out.size; simp; omega
    intro v' w4 hown' hgrow _
    have hO' : OwnS w4 w1.heap.size v' (LP ++ [(rx, ry)]) := by
     unfold OwnS
     rw [scells_append, List.length_append]
     exact hown'
    have hx' : Ext w1 w4 := (HX2.out.alloc _).grown hgrow (fun g hg => (World.ownsRow.lt HO2.out g hg).1)
    have HO4 := Lib.hid hO'; have HX4 := Lib.hid hx'
    clear hO' hown' hgrow hx' v0 v1
    go_wp2_with fail
    go_roundw
    case rel => exact ⟨k + 1, by omega, by go_num, by rw [HCE.out]; exact HO4.out, HX4.out⟩
    case measure => simp [intOf]; omega
  ·obtain rfl : n = k := by omega
   have HNG : Hid (normG l = mr (if areaTo l n < 0 then (cornT l n).reverse else cornT l n)) := by show _ = _; unfold normG; rw [HL.out]
   have HC0 := Lib.hid (cornT_len l n)
   obtain ⟨C0, hC0⟩ : ∃ L, L = cornT l n := ⟨_, rfl⟩
   rw [← hC0] at HNG HC0 HO HCN
   clear hC0 hlt hk
   go_wp2_with fail
   refine (area_any A n c l wi (HA.out.ext (HX1.out.trans HX.out)) HL.out (by omega)).mono ?_
   rintro e w2 ⟨rfl, he2⟩
   have HX0 := Lib.hid ((HX1.out.trans HX.out).trans he2)
   have HO0 : Hid (OwnS w2 w1.heap.size u5 C0) := Lib.hid (own_ext HO.out he2)
   obtain ⟨w0, hw0⟩ : ∃ z : World, z = w2 := ⟨_, rfl⟩
   rw [← hw0] at HX0 HO0 ⊢
   clear he2 hw0
   obtain ⟨ar, har⟩ : ∃ z, z = areaTo l n := ⟨_, rfl⟩
   rw [← har] at HNG ⊢
   clear har
   rcases Int.lt_or_le ar 0 with hneg | hneg
   case' inl =>
    have HNL : Hid (normG l = mr C0.reverse) := by show _ = _; rw [HNG.out, if_pos hneg]
    have HCL : Hid (C0.reverse.length ≤ n) := by show _ ≤ _; rw [List.length_reverse]; exact HC0.out
    have HCR : Hid (C0.reverse ≠ []) := fun h => HCN.out (List.reverse_eq_nil_iff.1 h)
    go_wp2_with fail
    refine (reverse_own w1.heap.size u5 C0 w0 HO0.out (by have := HC0.out; omega)).mono ?_
    rintro e w2 ⟨rfl, hoR, hxR⟩
    have HX2 := Lib.hid (hxR w HX1.out.size HX0.out)
    have HO2 := Lib.hid hoR
    obtain ⟨CL, hCL⟩ : ∃ L, L = C0.reverse := ⟨_, rfl⟩
    rw [← hCL] at HNL HCL HCR HO2
    clear hCL hoR hxR HNG HC0 HCN HO0 HX0
    go_upto_region 13 with fail
   case' inr =>
    have HNL : Hid (normG l = mr C0) := by show _ = _; rw [HNG.out, if_neg (by omega)]
    have HCL : Hid (C0.length ≤ n) := HC0.out
    have HCR : Hid (C0 ≠ []) := HCN.out
    have har' : ¬ ar < 0 := by omega
    obtain ⟨CL, hCL⟩ : ∃ L, L = C0 := ⟨_, rfl⟩
    rw [← hCL] at HNL HCL HCR HO0
    have HX2 := HX0; have HO2 := HO0
    obtain ⟨w2, hw2⟩ : ∃ z : World, z = w0 := ⟨_, rfl⟩
    rw [← hw2] at HX2 HO2 ⊢
    clear hCL hw2 HNG HC0 HCN HO0 HX0
    go_upto_region 13 with fail
   all_goals
    have HNL : Hid (normG l = CL.drop (firstN CL CL.length) ++ CL.take (firstN CL CL.length)) := by show _ = _; rw [HNL.out]; rfl
    have HCN := HCR
    have hqp : 0 < CL.length := by
     rcases Nat.eq_zero_or_pos CL.length with h | h
     ·exact absurd (List.eq_nil_of_length_eq_zero h) HCR.out
     ·exact h
    obtain ⟨q, hq⟩ : ∃ q, q = CL.length := ⟨_, rfl⟩
    rw [← hq] at hqp HNL
    have HQ : Hid (CL.length = q) := hq.symm
    obtain ⟨VA, vc, rfl, hS, hvc, hvc'⟩ := HO2.out.slice
    rw [← hq] at hvc ⊢
    have HS2 := Lib.hid hS
    obtain ⟨gr, o0, rfl, _, _⟩ := hS.g (k := 0) (by omega)
    obtain ⟨gr2, rr, e0, _⟩ := own_blk HO2.out (by omega)
    injection e0 with e0
    injection e0 with e1 e2
    subst e1 e2
    clear hq hS HO
    have hqn : q ≤ 40 := by have := HCL.out; rw [HQ.out] at this; omega
    go_wp2_with fail
    go_loopw [8, 40] (fun fv i wr => ∃ k : Nat, k ≤ q ∧ i = .int .i64 k ∧ fv = .int .i64 ((firstN CL k : Nat) : Int) ∧ Ext w2 wr) (fun _ i _ => q - (intOf i).toNat)
    case atStart => exact ⟨0, Nat.zero_le _, rfl, rfl, Ext.refl _⟩
    case round =>
     obtain ⟨wj, rfl⟩ : ∃ wj : World, wj = wr := ⟨_, rfl⟩
     obtain ⟨k, hk, rfl, rfl, hx⟩ := hrel
     have HXJ := Lib.hid hx
     clear hx
     by_cases hkq : k < q
     ·have hfl := firstN_lt CL k
      have HFS : Hid (firstN CL (k + 1) = if lexB (gS CL k) (gS CL (firstN CL k)) = true then k else firstN CL k) := rfl
      obtain ⟨fi, hfi⟩ : ∃ f, f = firstN CL k := ⟨_, rfl⟩
      rw [← hfi] at hfl HFS ⊢
      clear hfi
      obtain ⟨c0, c1⟩ := (HS2.out.ext HXJ.out).at1 (k := k) (by rw [HQ.out]; exact hkq)
      obtain ⟨d0, d1⟩ := (HS2.out.ext HXJ.out).at1 (k := fi) (by rw [HQ.out]; omega)
      obtain ⟨⟨sx, sy⟩, hs⟩ : ∃ s, s = gS CL k := ⟨_, rfl⟩
      obtain ⟨⟨fx, fy⟩, hf⟩ : ∃ s, s = gS CL fi := ⟨_, rfl⟩
      rw [← hs] at c0 c1 HFS
      rw [← hf] at d0 d1 HFS
      simp only [Nat.zero_add] at c0 c1 d0 d1
      have hfq : (fi : Int) < q := by omega
      have hgl : gr < wj.heap.size := cell_lt c0
      have hgl1 : gr < wj.heap.size + 1 := by omega
      clear hs hf
      by_cases h1 : sx < fx
      ·have HFE : Hid (firstN CL (k + 1) = k) := by show _ = _; rw [HFS.out, if_pos (show lexB (sx, sy) (fx, fy) = true from decide_eq_true (Or.inl h1))]
       go_wp2_with fail
       go_roundw
       case rel => exact ⟨k + 1, by omega, by go_num, by rw [HFE.out], (HXJ.out.alloc _).alloc _⟩
       case measure => simp [intOf]; omega
      ·by_cases h2 : sx = fx
       ·by_cases h3 : sy < fy
        ·have HFE : Hid (firstN CL (k + 1) = k) := by show _ = _; rw [HFS.out, if_pos (show lexB (sx, sy) (fx, fy) = true from decide_eq_true (Or.inr ⟨h2, h3⟩))]
         have h2b : (sx == fx) = true := by simp [h2]
         clear h2
         go_wp2_with fail
         go_roundw
         case rel => exact ⟨k + 1, by omega, by go_num, by rw [HFE.out], (HXJ.out.alloc _).alloc _⟩
         case measure => simp [intOf]; omega
        ·have HFE : Hid (firstN CL (k + 1) = fi) := by show _ = _; rw [HFS.out, if_neg (fun h : lexB (sx, sy) (fx, fy) = true => by have := of_decide_eq_true (p := sx < fx ∨ (sx = fx ∧ sy < fy)) h; omega)]
         have h2b : (sx == fx) = true := by simp [h2]
         clear h2
         go_wp2_with fail
         go_roundw
         case rel => exact ⟨k + 1, by omega, by go_num, by rw [HFE.out], (HXJ.out.alloc _).alloc _⟩
         case measure => simp [intOf]; omega
       ·have HFE : Hid (firstN CL (k + 1) = fi) := by show _ = _; rw [HFS.out, if_neg (fun h : lexB (sx, sy) (fx, fy) = true => by have := of_decide_eq_true (p := sx < fx ∨ (sx = fx ∧ sy < fy)) h; omega)]
        have h2b : (sx == fx) = false := by simp [h2]
        clear h2
        go_wp2_with fail
        go_roundw
        case rel => exact ⟨k + 1, by omega, by go_num, by rw [HFE.out], (HXJ.out.alloc _).alloc _⟩
        case measure => simp [intOf]; omega
     ·obtain rfl : q = k := by omega
      have hfl := firstN_lt CL q
      obtain ⟨fi, hfi⟩ : ∃ f, f = firstN CL q := ⟨_, rfl⟩
      rw [← hfi] at hfl HNL ⊢
      clear hfi
      have hE2 : Ext wj wj := Ext.refl _
      have HD1 : Hid (SpotsAt wj (some ⟨gr, fi * 2, none⟩) (CL.drop fi)) := Lib.hid (spots_drop (HS2.out.ext HXJ.out))
      have HD2 : Hid (SpotsAt wj (some ⟨gr, 0, none⟩) (CL.take fi)) := Lib.hid ((HS2.out.ext HXJ.out).take fi)
      have HLD : Hid ((CL.drop fi).length = q - fi) := by show _ = _; rw [List.length_drop, HQ.out]
      have HLT : Hid ((CL.take fi).length = fi) := by show _ = _; rw [List.length_take, HQ.out]; omega
      have hs1 : (fi : Int) ≤ (q : Int) := by omega
      have hs2 : fi ≤ q := by omega
      have hs3 : ¬ vc = fi := by omega
      have hs4 : (fi : Int) ≤ (vc : Int) := by omega
      have hs5 : fi ≤ vc := by omega
      have hs6 : (q : Int) ≤ (vc : Int) := by omega
      have hs7 : ((q : Int) - (fi : Int)).toNat = q - fi := by omega
      have hs8 : ((vc : Int) - (fi : Int)).toNat = vc - fi := by omega
      have hs0 : (0 : Int) ≤ (fi : Int) := by omega
      have HXW := Lib.hid (HX2.out.trans HXJ.out)
      clear hE2 hfl
      go_upto_region 21 with fail
      refine wp_at fun W5 hW5 => ?_
      have hx5 : Ext wj W5 := by rw [hW5]; first | exact (Ext.refl _).drewN _ | exact Ext.refl _
      have HX5 := Lib.hid (HXW.out.trans hx5)
      have HS1 := Lib.hid (HD1.out.ext hx5)
      have HS2 := Lib.hid (HD2.out.ext hx5)
      clear hW5 hx5 HD1 HD2 HXW
      refine region_slotsT (m := 2) (l := 8) (N := 78) (W0 := W5) [70, 71, 72, 73, 74, 75, 76, 77] [Fx (.slice (some ⟨gr, 0, none⟩) q vc), Fx (.int .i64 (fi : Int)), Fx (.slice (some ⟨gr, fi * 2, none⟩) (q - fi) (vc - fi)), Fx (.slice (some ⟨gr, 0, none⟩) q vc), Fx (.int .i64 (fi : Int)), Fx (.slice (some ⟨gr, 0, none⟩) fi vc), IsRow 38 [.slice (some ⟨gr, fi * 2, none⟩) (q - fi) (vc - fi), .slice (some ⟨gr, 0, none⟩) fi vc], IsS W5.heap.size (CL.drop fi ++ CL.take fi)] (by kernel_rfl) (by omega) (by kernel_rfl) (by kernel_rfl) (by kernel_rfl) (Ext.refl _) ?kp (fun i hi => ?_) (fun xs w1 hx hT => ?_)
      case kp => exact ⟨Fx.kp _, Fx.kp _, Fx.kp _, Fx.kp _, Fx.kp _, Fx.kp _, IsRow.kp _ _, IsS.kp _ _, trivial⟩
      ·match i, hi with
       |0, _ =>
        refine so rfl ?_
        intro fb wi hx hb hd K hK
        have x5 : fb.eval (.tmp 5) = .slice (some ⟨gr, 0, none⟩) q vc := hb 5 rfl
        refine sv rfl (v := .slice (some ⟨gr, 0, none⟩) q vc) (w' := wi) (fun ρ hρ hc => ?_) (hK _ _ (Ext.refl _) (rfl))
        have r5 := (hρ (.tmp 5)).trans x5
        simp [execOp, go_sem, r5]
       |1, _ =>
        refine so rfl ?_
        intro fb wi hx hb hd K hK
        have x8 : fb.eval (.tmp 8) = .int .i64 (fi : Int) := hb 8 rfl
        refine sv rfl (v := .int .i64 (fi : Int)) (w' := wi) (fun ρ hρ hc => ?_) (hK _ _ (Ext.refl _) (rfl))
        have r8 := (hρ (.tmp 8)).trans x8
        simp [execOp, go_sem, r8]
       |2, _ =>
        refine so rfl ?_
        intro fb wi hx hb hd K hK
        have x70 : fb.eval (.tmp 70) = .slice (some ⟨gr, 0, none⟩) q vc := hd 0 70 rfl (by kernel_rfl)
        have x71 : fb.eval (.tmp 71) = .int .i64 (fi : Int) := hd 1 71 rfl (by kernel_rfl)
        refine sv rfl (v := .slice (some ⟨gr, fi * 2, none⟩) (q - fi) (vc - fi)) (w' := wi) (fun ρ hρ hc => ?_) (hK _ _ (Ext.refl _) (rfl))
        have r70 := (hρ (.tmp 70)).trans x70
        have r71 := (hρ (.tmp 71)).trans x71
        simp [execOp, go_sem, r70, r71, hs0, hs1, hs2, hs3, hs4, hs5, hs6, hs7, hs8]
       |3, _ =>
        refine so rfl ?_
        intro fb wi hx hb hd K hK
        have x5 : fb.eval (.tmp 5) = .slice (some ⟨gr, 0, none⟩) q vc := hb 5 rfl
        refine sv rfl (v := .slice (some ⟨gr, 0, none⟩) q vc) (w' := wi) (fun ρ hρ hc => ?_) (hK _ _ (Ext.refl _) (rfl))
        have r5 := (hρ (.tmp 5)).trans x5
        simp [execOp, go_sem, r5]
       |4, _ =>
        refine so rfl ?_
        intro fb wi hx hb hd K hK
        have x8 : fb.eval (.tmp 8) = .int .i64 (fi : Int) := hb 8 rfl
        refine sv rfl (v := .int .i64 (fi : Int)) (w' := wi) (fun ρ hρ hc => ?_) (hK _ _ (Ext.refl _) (rfl))
        have r8 := (hρ (.tmp 8)).trans x8
        simp [execOp, go_sem, r8]
       |5, _ =>
        refine so rfl ?_
        intro fb wi hx hb hd K hK
        have x73 : fb.eval (.tmp 73) = .slice (some ⟨gr, 0, none⟩) q vc := hd 3 73 rfl (by kernel_rfl)
        have x74 : fb.eval (.tmp 74) = .int .i64 (fi : Int) := hd 4 74 rfl (by kernel_rfl)
        refine sv rfl (v := .slice (some ⟨gr, 0, none⟩) fi vc) (w' := wi) (fun ρ hρ hc => ?_) (hK _ _ (Ext.refl _) (rfl))
        have r73 := (hρ (.tmp 73)).trans x73
        have r74 := (hρ (.tmp 74)).trans x74
        simp [execOp, go_sem, r73, r74, hs0, hs4, hs5, hs6]
       |6, _ =>
        refine so rfl ?_
        intro fb wi hx hb hd K hK
        have x72 : fb.eval (.tmp 72) = .slice (some ⟨gr, fi * 2, none⟩) (q - fi) (vc - fi) := hd 2 72 rfl (by kernel_rfl)
        have x75 : fb.eval (.tmp 75) = .slice (some ⟨gr, 0, none⟩) fi vc := hd 5 75 rfl (by kernel_rfl)
        refine sv rfl (v := .slice (some ⟨wi.heap.size, 0, none⟩) 2 2) (w' := wi.alloc (.cells #[.slice (some ⟨gr, fi * 2, none⟩) (q - fi) (vc - fi), .slice (some ⟨gr, 0, none⟩) fi vc] 38)) (fun ρ hρ hc => ?_) (hK _ _ ((Ext.refl _).alloc _) (⟨wi.heap.size, rfl, Blk.new' rfl⟩))
        have r72 := (hρ (.tmp 72)).trans x72
        have r75 := (hρ (.tmp 75)).trans x75
        simp [execOp, go_sem, r72, r75]
       |7, _ =>
        refine so rfl ?_
        intro fb wi hx hb hd K hK
        have y76 : IsRow 38 [.slice (some ⟨gr, fi * 2, none⟩) (q - fi) (vc - fi), .slice (some ⟨gr, 0, none⟩) fi vc] (fb.eval (.tmp 76)) wi := hd 6 76 rfl (by kernel_rfl)
        obtain ⟨gq, x76, hbq⟩ := y76
        refine sc rfl 35 [.tmp 76] #[127] rfl _ Tryz.func35 rfl (by decide +kernel) [.slice (some ⟨gq, 0, none⟩) 2 2] (by simp only [List.map_cons, List.map_nil, x76]) (retS_is (concat_any gq (q - fi) (vc - fi) fi vc gr (fi * 2) gr 0 (CL.drop fi) (CL.take fi) wi hbq (HS1.out.ext hx) (HS2.out.ext hx) HLD.out HLT.out (by omega) (by omega)) hx.size) (fun e w' h => rk hK h)
       |n + 8, hn => exact absurd hn (by omega)
      ·skip
       have t77 : IsS W5.heap.size (CL.drop fi ++ CL.take fi) (xs 7) w1 := hT 7 (by decide)
       simp only [frOf, putAll, List.drop_succ_cons, List.drop_zero, List.setIfInBounds_toArray, List.set_cons_succ, List.set_cons_zero, Nat.zero_add, Nat.reduceAdd]
       have HU := Lib.hid t77
       have HX9 := Lib.hid (HX5.out.trans hx)
       clear hT t77
       obtain ⟨v77, hv77⟩ : ∃ v, v = xs 7 := ⟨_, rfl⟩
       rw [← hv77] at HU ⊢
       clear hv77
       go_wp2_with fail
       go_ret2
       refine ⟨v77, by rw [HZ.out]; rfl, fun _ => ?_, fun h => absurd HZ.out h, HX9.out⟩
       rw [HNL.out]
       exact own_base_le HU.out HX5.out.size
theorem normal_any (A : Option Addr) (n c : Nat) (l : List Spot) (w : World) (ha : SpotsAt w A l) (hl : l.length = n) (hn : n ≤ c) (hpos : pcheck l = 0 → 0 ≤ areaTo l n) (hne : pcheck l = 0 → cornT l n ≠ []) :
  Calls Tryz.prog 10 #[.slice A n c] w (RetNm w l) := (normalG_any A n c l w ha hl hn hne).mono fun e w' h => by
 obtain ⟨v, h1, h2, h3, h4⟩ := h
 refine ⟨v, h1, fun hz => ?_, h3, h4⟩
 have h5 := h2 hz
 unfold normG at h5
 rw [if_neg (by rw [hl]; have := hpos hz; omega)] at h5
 exact h5
end Go.Proofs.YtfegbaokcbjllaaGreat
