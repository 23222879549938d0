/- allowance.Shifts -/
import Derived.WalkLawsBesides
import Derived.Laws.Externs
import Derived.IntWalk
import Derived.Test.YtfegbaokcbjllaaGreatKGraded
import Derived.Test.YtfegbaokcbjllaaGreatKPMeet
import Derived.Test.YtfegbaokcbjllaaGreatKSeg
/- outline.Polygon, polygon.area, polygon.Area2 -/
namespace Go.Proofs.YtfegbaokcbjllaaGreat
open Go.RowKit
def RetP (w : World) (es : List Edge) (e : Ending) (w' : World) : Prop :=
 ∃ v, e = .returned (.tuple #[v, .int .i64 (ocheck es)]) ∧ (ocheck es = 0 → OwnS w' w.heap.size v (verts es)) ∧ (ocheck es ≠ 0 → v = .slice none 0 0) ∧ Ext w w'
theorem polygon_any (A : Option Addr) (n c : Nat) (l : List Edge) (w : World) (ha : EdgesAt w A l) (hl : l.length = n) (hn : n ≤ c) (hc : c ≤ 9223372036854775807) :
  Calls Tryz.prog 56 #[.slice A n c] w (RetP w l) := by
 have HL := Lib.hid hl; clear hl
 have HA := Lib.hid ha; clear ha
 go_enter Tryz.func56, Tryz.ntmps56
 go_wp2_with fail
 refine (ocheck_any A n c l w HA.out HL.out hn hc).mono ?_
 rintro e w1 ⟨rfl, he1⟩
 by_cases hz : ocheck l = 0
 rotate_left
 ·have hzb : (ocheck l != 0) = true := by simp [hz]
  have HZ := Lib.hid hz; clear hz
  go_wp2_with fail
  go_ret2
  exact ⟨_, rfl, fun h => absurd h HZ.out, fun _ => rfl, he1⟩
 have HZ := Lib.hid hz
 have hzb : (ocheck l != 0) = false := by rw [hz]; rfl
 rw [hz]; clear hz hzb
 obtain ⟨h2, h16, hfe⟩ := ocheck_ok HZ.out
 rw [HL.out] at h2 h16 hfe
 have HF := Lib.hid hfe; clear hfe
 go_wp2_with fail
 refine (vertices_any A n c l _ (HA.out.ext he1) HL.out (by omega) (fun q hq => ⟨by have := lens_of HF.out hq; omega, (lens_of HF.out hq).2⟩)).mono ?_
 rintro e w2 ⟨v, rfl, hv, he2⟩
 go_wp2_with fail
 go_ret2
 refine ⟨_, by rw [HZ.out]; rfl, fun _ => OwnS.base_le hv he1.size, fun h => absurd HZ.out h, he1.trans he2⟩
def areaTo (l : List Spot) : Nat → Int
 |0 => 0
 |k + 1 => wrap64 (areaTo l k + wrap64 (wrap64 ((gS l k).1 * (gS l ((k + 1) % l.length)).2) - wrap64 ((gS l k).2 * (gS l ((k + 1) % l.length)).1)))
set_option maxHeartbeats 800000 in
theorem area_any (A : Option Addr) (n c : Nat) (l : List Spot) (w : World) (ha : SpotsAt w A l) (hl : l.length = n) (hn : n ≤ 1000) :
  Calls Tryz.prog 33 #[.slice A n c] w fun e w' => e = .returned (.int .i64 (areaTo l n)) ∧ Ext w w' := by
 have HL := Lib.hid hl; clear hl
 have HA := Lib.hid ha; clear ha
 go_enter Tryz.func33, Tryz.ntmps33
 go_wp2_with fail
 go_loopw [3, 9] (fun s i wr => ∃ k : Nat, k ≤ n ∧ i = .int .i64 k ∧ s = .int .i64 (areaTo l k) ∧ Ext w wr) (fun _ i _ => n - (intOf i).toNat)
 case atStart => exact ⟨0, Nat.zero_le _, rfl, rfl, Ext.refl _⟩
 case round =>
  obtain ⟨k, hk, rfl, rfl, hx⟩ := hrel
  by_cases hlt : k < n
  ·have hm1 : (k + 1) % n < n := Nat.mod_lt _ (by omega)
   obtain ⟨b, off, rfl, hc0, hc1⟩ := (HA.out.ext hx).g (k := k) (by rw [HL.out]; exact hlt)
   obtain ⟨hd0, hd1⟩ := (HA.out.ext hx).at1 (k := (k + 1) % n) (by rw [HL.out]; exact hm1)
   have hbl : b < wr.heap.size := cell_lt hc0
   have hbl1 : b < wr.heap.size + 1 := by omega
   obtain ⟨hj0, hj1, hj2⟩ := mod_idx k n 1 1 rfl (by omega)
   have HS : Hid (areaTo l (k + 1) = wrap64 (areaTo l k + wrap64 (wrap64 ((gS l k).1 * (gS l ((k + 1) % n)).2) - wrap64 ((gS l k).2 * (gS l ((k + 1) % n)).1)))) := by
    show areaTo l (k + 1) = _
    rw [areaTo, HL.out]
   go_wp2_with fail
   go_roundw
   case rel => exact ⟨k + 1, by omega, by go_num, by rw [HS.out], (hx.alloc _).alloc _⟩
   case measure => simp [intOf]; omega
  ·go_wp2_with fail
   go_ret
   exact ⟨ret_int (by
    obtain rfl : k = n := by omega
    rfl), hx⟩
def area2 (l : List Spot) : Int := if pcheck l ≠ 0 then 0 else areaTo l l.length
theorem pcheck_len {l : List Spot} (h : pcheck l = 0) : 3 ≤ l.length ∧ l.length ≤ 40 := by
 unfold pcheck at h
 split at h
 ·cases h
 ·split at h
  ·cases h
  ·omega
theorem area2_any (A : Option Addr) (n c : Nat) (l : List Spot) (w : World) (ha : SpotsAt w A l) (hl : l.length = n) (hn : n ≤ c) :
  Calls Tryz.prog 89 #[.slice A n c] w fun e w' => e = .returned (.int .i64 (area2 l)) ∧ Ext w w' := by
 have HL := Lib.hid hl; clear hl
 have HA := Lib.hid ha; clear ha
 go_enter Tryz.func89, Tryz.ntmps89
 go_wp2_with fail
 refine (pcheck_any A n c l w HA.out HL.out hn).mono ?_
 rintro e w1 ⟨rfl, he1⟩
 by_cases hz : pcheck l = 0
 rotate_left
 ·have hzb : (pcheck l != 0) = true := by simp [hz]
  have HZ := Lib.hid hz; clear hz
  go_wp2_with fail
  go_ret
  exact ⟨ret_int (by unfold area2; rw [if_pos HZ.out]), he1⟩
 have HZ := Lib.hid hz
 rw [hz]; clear hz
 have hlen := pcheck_len HZ.out
 rw [HL.out] at hlen
 go_wp2_with fail
 refine (area_any A n c l _ (HA.out.ext he1) HL.out (by omega)).mono ?_
 rintro e w2 ⟨rfl, he2⟩
 go_wp2_with fail
 go_ret
 exact ⟨ret_int (by unfold area2; rw [if_neg (by rw [HZ.out]; simp), HL.out]), he1.trans he2⟩
def coordB (z : Int) : Bool := decide (-1048576 ≤ z ∧ z ≤ 1048576)
theorem rndZ_len {r : Rat} (h : RB r) : (limbs (rndZ r).natAbs).length ≤ 1000 := by
 unfold rndZ
 rw [sgI_abs]
 refine Nat.le_trans (limbs_mono (Nat.div_le_self _ _)) ?_
 rw [show 2 * r.num.natAbs + r.den = r.num.natAbs + r.num.natAbs + r.den by omega]
 exact ((h.n.add h.n).add (h.d.mono (by omega))).len (by omega)
theorem coordinate_any (r : Rat) (v : Value) (w : World) (h : IsR r v w) (hb : RB r) (hd : r.den + r.den < DB) : Calls Tryz.prog 110 #[v] w fun e w' => e = .returned (.tuple #[.int .i64 (fitsV (rndZ r)), .bool (coordB (rndZ r))]) ∧ Ext w w' := by
 have HR := Lib.hid (fun W (he : Ext w W) => rrndz_any r v W (h.ext he) hb hd)
 have HS := Lib.hid (fun v W (h : IsZ (rndZ r) v W) => ismall_any (rndZ r) v W h (rndZ_len hb))
 obtain ⟨u, d, rfl, h1, h2⟩ := h
 obtain ⟨A, k, c, rfl⟩ := h1.form
 obtain ⟨A2, k2, c2, rfl⟩ := h2.form
 clear h1 h2 hb hd
 generalize negI r.num = s at *
 generalize rndZ r = z at *
 go_enter Tryz.func110, Tryz.ntmps110
 go_wp2_with fail
 refine (HR.out _ ((Ext.refl _).alloc _)).mono ?_
 rintro e w1 ⟨v1, rfl, hv1, he1⟩
 have HX1 : Hid (Ext w w1) := ((Ext.refl _).alloc _).trans he1
 have HV1 := Lib.hid hv1
 obtain ⟨u1, rfl, hu1⟩ := hv1
 obtain ⟨A3, k3, c3, rfl⟩ := hu1.form
 clear hu1 he1 HR
 go_wp2_with fail
 refine (HS.out _ _ HV1.out).mono ?_
 rintro e w2 ⟨rfl, he2⟩
 have HX2 := Lib.hid (HX1.out.trans he2)
 clear he2 HX1 HS HV1
 by_cases hs : fitsB z = true
 ·have hr := of_decide_eq_true hs
  have e1 : fitsV z = z := if_pos hr
  rw [hs, e1]
  have E1 := Lib.hid e1
  clear e1 hs
  by_cases ha : -1048576 ≤ z
  ·by_cases hb : z ≤ 1048576
   ·have hc : coordB z = true := decide_eq_true ⟨ha, hb⟩
    have HC := Lib.hid hc
    clear hc
    go_wp2_with fail
    go_ret2
    refine ⟨?_, HX2.out⟩
    rw [E1.out, HC.out]
    first
     |exact rfl
     |(rw [decide_eq_true hb]; exact rfl)
     |(rw [decide_eq_false (show ¬ z ≤ 1048576 by omega)]; exact rfl)
   ·have hc : coordB z = false := decide_eq_false (fun h => hb h.2)
    have HC := Lib.hid hc
    clear hc
    go_wp2_with fail
    go_ret2
    refine ⟨?_, HX2.out⟩
    rw [E1.out, HC.out]
    first
     |exact rfl
     |(rw [decide_eq_true hb]; exact rfl)
     |(rw [decide_eq_false (show ¬ z ≤ 1048576 by omega)]; exact rfl)
  ·have hc : coordB z = false := decide_eq_false (fun h => ha h.1)
   have HC := Lib.hid hc
   clear hc
   go_wp2_with fail
   go_ret2
   refine ⟨?_, HX2.out⟩
   rw [E1.out, HC.out]
   exact rfl
 ·have hs' : fitsB z = false := by cases h : fitsB z with | false => rfl | true => exact absurd h hs
  have hr := of_decide_eq_false hs'
  have hc : coordB z = false := decide_eq_false (by omega)
  rw [hs']
  have HC := Lib.hid hc
  clear hs hs' hc hr
  go_wp2_with fail
  go_ret2
  refine ⟨?_, HX2.out⟩
  rw [HC.out]
  exact rfl
def gridV (x y : Int) : Spot := if coordB x = true ∧ coordB y = true then (x, y) else (0, 0)
def gridE (x y : Int) : Int := if coordB x = true ∧ coordB y = true then 0 else 3
theorem coord_small {z : Int} (h : coordB z = true) : fitsV z = z := by
 have := of_decide_eq_true h
 exact if_pos (by omega)
theorem grid_any (x y : Rat) (v : Value) (w : World) (h : IsP x y v w) (hb : RB x) (hb' : RB y) (hd : x.den + x.den < DB) (hd' : y.den + y.den < DB) : Calls Tryz.prog 86 #[v] w fun e w' => e = .returned (.tuple #[SV (gridV (rndZ x) (rndZ y)), .int .i64 (gridE (rndZ x) (rndZ y))]) ∧ Ext w w' := by
 obtain ⟨u, d, u', d', rfl, h1, h2, h3, h4⟩ := h
 have HX := Lib.hid (fun W (he : Ext w W) => coordinate_any x _ W ⟨u, d, rfl, h1.ext he, h2.ext he⟩ hb hd)
 have HY := Lib.hid (fun W (he : Ext w W) => coordinate_any y _ W ⟨u', d', rfl, h3.ext he, h4.ext he⟩ hb' hd')
 obtain ⟨A, k, c, rfl⟩ := h1.form
 obtain ⟨A2, k2, c2, rfl⟩ := h2.form
 obtain ⟨A3, k3, c3, rfl⟩ := h3.form
 obtain ⟨A4, k4, c4, rfl⟩ := h4.form
 clear h1 h2 h3 h4 hb hb' hd hd'
 generalize negI x.num = s at *
 generalize negI y.num = s' at *
 generalize rndZ x = zx at *
 generalize rndZ y = zy at *
 go_enter Tryz.func86, Tryz.ntmps86
 go_wp2_with fail
 refine (HX.out _ (((Ext.refl _).alloc _).alloc _)).mono ?_
 rintro e w1 ⟨rfl, he1⟩
 have HX1 : Hid (Ext w w1) := (((Ext.refl _).alloc _).alloc _).trans he1
 have HB1 : Hid (Blk 155 w1 w.heap.size [.bool s, .slice A k c, .slice A2 k2 c2, .bool s', .slice A3 k3 c3, .slice A4 k4 c4]) := ((Blk.new' rfl).ext ((Ext.refl _).alloc _)).ext he1
 have HR1 : Hid (Blk 49 w1 (w.heap.size + 1) [.int .i64 0, .int .i64 0]) := (Blk.new' (by simp)).ext he1
 obtain ⟨b0, b1, b2, b3, b4, b5⟩ := blk6c HB1.out
 clear he1 HX
 go_wp2_with fail
 refine (HY.out _ HX1.out).mono ?_
 rintro e w2 ⟨rfl, he2⟩
 have HX2 := Lib.hid (HX1.out.trans he2)
 have HR2 := Lib.hid (HR1.out.ext he2)
 clear he2 HX1 HY b0 b1 b2 b3 b4 b5 HB1 HR1
 have d0 := HR2.out.cell 0; have d1 := HR2.out.cell 1
 have f0 := HR2.out.frozen 0; have f1 := HR2.out.frozen 1
 simp only [List.getElem?_cons_succ, List.getElem?_cons_zero] at d0 d1
 cases hcx : coordB zx
 ·have e1 : gridV zx zy = (0, 0) := if_neg (by rw [hcx]; simp)
  have e2 : gridE zx zy = 3 := if_neg (by rw [hcx]; simp)
  have HV := Lib.hid e1; have HE := Lib.hid e2
  clear e1 e2 hcx
  obtain ⟨mx, hmx⟩ : ∃ m, m = fitsV zx := ⟨_, rfl⟩
  obtain ⟨my, hmy⟩ : ∃ m, m = fitsV zy := ⟨_, rfl⟩
  obtain ⟨by', hby⟩ : ∃ m, m = coordB zy := ⟨_, rfl⟩
  rw [← hmx, ← hmy, ← hby]
  clear hmx hmy hby
  go_wp2_with fail
  refine bodyPost_ret (v := .tuple #[SV (0, 0), .int .i64 3]) (by simp [results, Tryz.results86, go_sem, d0, d1, SV]) rfl ?_
  exact ⟨by rw [HV.out, HE.out], kext HX2.out (Nat.le_succ _) (ks2 _ _ _ _)⟩
 ·cases hcy : coordB zy
  ·have e1 : gridV zx zy = (0, 0) := if_neg (by rw [hcy]; simp)
   have e2 : gridE zx zy = 3 := if_neg (by rw [hcy]; simp)
   have HV := Lib.hid e1; have HE := Lib.hid e2
   clear e1 e2 hcx hcy
   obtain ⟨mx, hmx⟩ : ∃ m, m = fitsV zx := ⟨_, rfl⟩
   obtain ⟨my, hmy⟩ : ∃ m, m = fitsV zy := ⟨_, rfl⟩
   rw [← hmx, ← hmy]
   clear hmx hmy
   go_wp2_with fail
   refine bodyPost_ret (v := .tuple #[SV (0, 0), .int .i64 3]) (by simp [results, Tryz.results86, go_sem, d0, d1, SV]) rfl ?_
   exact ⟨by rw [HV.out, HE.out], kext HX2.out (Nat.le_succ _) (ks2 _ _ _ _)⟩
  ·have e1 : gridV zx zy = (zx, zy) := if_pos ⟨hcx, hcy⟩
   have e2 : gridE zx zy = 0 := if_pos ⟨hcx, hcy⟩
   have HV := Lib.hid e1; have HE := Lib.hid e2
   rw [coord_small hcx, coord_small hcy]
   clear e1 e2 hcx hcy
   go_wp2_with fail
   refine bodyPost_ret (v := .tuple #[SV (zx, zy), .int .i64 0]) (by simp [results, Tryz.results86, go_sem, d0, d1, SV]) rfl ?_
   exact ⟨by rw [HV.out, HE.out], kext HX2.out (Nat.le_succ _) (ks2 _ _ _ _)⟩
theorem exact_any (s : Spot) (w : World) (hx : -9223372036854775808 ≤ s.1 ∧ s.1 ≤ 9223372036854775807) (hy : -9223372036854775808 ≤ s.2 ∧ s.2 ≤ 9223372036854775807) : Calls Tryz.prog 85 #[SV s] w (Ret (IsP (s.1 : Rat) (s.2 : Rat)) w) := by
 obtain ⟨x, y⟩ := s
 simp only at hx hy
 have HP := Lib.hid (fun W => pof_any x y W hx hy)
 clear hx hy
 simp only [SV]
 generalize (x : Rat) = X at *
 generalize (y : Rat) = Y at *
 go_enter Tryz.func85, Tryz.ntmps85
 go_wp2_with fail
 refine (HP.out _).mono ?_
 rintro e w1 ⟨v1, rfl, ⟨u9, u10, u11, u12, rfl, h9, h10, h11, h12⟩, he1⟩
 have HU := Lib.hid h9; have HD := Lib.hid h10; have HU' := Lib.hid h11; have HD' := Lib.hid h12
 obtain ⟨A9, k9, c9, rfl⟩ := h9.form
 obtain ⟨A10, k10, c10, rfl⟩ := h10.form
 obtain ⟨A11, k11, c11, rfl⟩ := h11.form
 obtain ⟨A12, k12, c12, rfl⟩ := h12.form
 have HX1 : Hid (Ext w w1) := (((Ext.refl _).alloc _).alloc _).trans he1
 have HR1 : Hid (Blk 155 w1 (w.heap.size + 1) [.bool false, .slice none 0 0, .slice none 0 0, .bool false, .slice none 0 0, .slice none 0 0]) := (Blk.new' (by simp)).ext he1
 obtain ⟨s9, hs⟩ : ∃ b_, b_ = negI X.num := ⟨_, rfl⟩
 rw [← hs]
 have HS := Lib.hid hs
 clear hs
 obtain ⟨s10, hs⟩ : ∃ b_, b_ = negI Y.num := ⟨_, rfl⟩
 rw [← hs]
 have HS' := Lib.hid hs
 clear hs h9 h10 h11 h12 he1 HP
 obtain ⟨b0, b1, b2, b3, b4, b5⟩ := blk6c HR1.out
 obtain ⟨f0, f1, f2, f3, f4, f5⟩ := blk6f HR1.out
 go_wp2_with fail
 refine bodyPost_ret (v := .agg #[.bool s9, .slice A9 k9 c9, .slice A10 k10 c10, .bool s10, .slice A11 k11 c11, .slice A12 k12 c12]) (by simp [results, Tryz.results85, go_sem, b0, b1, b2, b3, b4, b5]) rfl ?_
 exact ⟨_, rfl, ⟨_, _, _, _, by rw [HS.out, HS'.out], HU.out.other HR1.out rfl (ks6 _ _ _ _ _ _ _ _), HD.out.other HR1.out rfl (ks6 _ _ _ _ _ _ _ _), HU'.out.other HR1.out rfl (ks6 _ _ _ _ _ _ _ _), HD'.out.other HR1.out rfl (ks6 _ _ _ _ _ _ _ _)⟩, kext HX1.out (Nat.le_succ _) (ks6 _ _ _ _ _ _ _ _)⟩
def addS (a b : Spot) : Spot := (wrap64 (a.1 + b.1), wrap64 (a.2 + b.2))
theorem sum_any (a b : Spot) (w : World) : Calls Tryz.prog 58 #[SV a, SV b] w fun e w' => e = .returned (SV (addS a b)) ∧ Ext w w' := by
 obtain ⟨ax, ay⟩ := a
 obtain ⟨bx, b_y⟩ := b
 go_enter Tryz.func58, Tryz.ntmps58
 go_wp2_with fail
 refine bodyPost_ret (v := SV (addS (ax, ay) (bx, b_y))) (by simp [results, Tryz.results58, go_sem, SV, addS]) rfl ?_
 exact ⟨rfl, (((Ext.refl _).alloc _).alloc _).alloc _⟩
def inSB (s : Spot) (b : Int) : Bool := decide (-b ≤ s.1 ∧ s.1 ≤ b ∧ -b ≤ s.2 ∧ s.2 ≤ b)
theorem withinS_any (s : Spot) (b : Int) (w : World) (hb : 0 ≤ b) (hb' : b ≤ 9223372036854775807) :
  Calls Tryz.prog 60 #[SV s, .int .i64 b] w fun e w' => e = .returned (.bool (inSB s b)) ∧ Ext w w' := by
 obtain ⟨x, y⟩ := s
 have hx : Ext w (w.alloc (.cells #[.int .i64 x, .int .i64 y] 49)) := (Ext.refl _).alloc _
 have HX := Lib.hid hx
 clear hx
 by_cases h1 : -b ≤ x
 ·by_cases h2 : x ≤ b
  ·by_cases h3 : -b ≤ y
   ·by_cases h4 : y ≤ b
    ·have HV : Hid (inSB (x, y) b = true) := decide_eq_true ⟨h1, h2, h3, h4⟩
     go_enter Tryz.func60, Tryz.ntmps60
     go_wp2_with fail
     go_ret
     exact ⟨ret_bool (by rw [HV.out]), HX.out⟩
    ·have HV : Hid (inSB (x, y) b = false) := decide_eq_false (fun h => h4 h.2.2.2)
     go_enter Tryz.func60, Tryz.ntmps60
     go_wp2_with fail
     go_ret
     exact ⟨ret_bool (by rw [HV.out]), HX.out⟩
   ·have HV : Hid (inSB (x, y) b = false) := decide_eq_false (fun h => h3 h.2.2.1)
    go_enter Tryz.func60, Tryz.ntmps60
    go_wp2_with fail
    go_ret
    exact ⟨ret_bool (by rw [HV.out]), HX.out⟩
  ·have HV : Hid (inSB (x, y) b = false) := decide_eq_false (fun h => h2 h.2.1)
   go_enter Tryz.func60, Tryz.ntmps60
   go_wp2_with fail
   go_ret
   exact ⟨ret_bool (by rw [HV.out]), HX.out⟩
 ·have HV : Hid (inSB (x, y) b = false) := decide_eq_false (fun h => h1 h.1)
  go_enter Tryz.func60, Tryz.ntmps60
  go_wp2_with fail
  go_ret
  exact ⟨ret_bool (by rw [HV.out]), HX.out⟩
theorem arounded_pos (a b : Int) (w : World) (h0 : 0 ≤ a) (h1 : a ≤ 1000000000000000) (hb : 1 ≤ b) (hb' : b ≤ 1000000000000000) :
  Calls Tryz.prog 83 #[.int .i64 a, .int .i64 b] w fun e w' => e = .returned (.int .i64 ((2 * a + b) / (2 * b))) ∧ w = w' := by
 have hd : decide (a < 0) = false := by simp; omega
 have hne : (2 * b == 0) = false := by simp; omega
 go_enter Tryz.func83, Tryz.ntmps83
 go_wp2_with fail
 go_ret
 exact ⟨rfl, rfl⟩
theorem arounded_any (a b : Int) (w : World) (h0 : -1000000000000000 ≤ a) (h1 : a ≤ 1000000000000000) (hb : 1 ≤ b) (hb' : b ≤ 1000000000000000) :
  Calls Tryz.prog 83 #[.int .i64 a, .int .i64 b] w fun e w' => e = .returned (.int .i64 (rnd a b)) ∧ w = w' := by
 by_cases ha : a < 0
 ·have hq0 : 0 ≤ (2 * (-a) + b) / (2 * b) := Int.ediv_nonneg (by omega) (by omega)
  have hq1 : (2 * (-a) + b) / (2 * b) ≤ 2 * (-a) + b := Int.ediv_le_self _ (by omega)
  go_enter Tryz.func83, Tryz.ntmps83
  go_wp2_with fail
  refine (arounded_pos (-a) b _ (by omega) (by omega) hb hb').mono ?_
  rintro e w1 ⟨rfl, rfl⟩
  go_wp2_with fail
  go_ret
  exact ⟨ret_int (by unfold rnd; rw [if_pos ha]), rfl⟩
 ·exact (arounded_pos a b w (by omega) h1 hb hb').mono fun e w' ⟨he, hw⟩ => ⟨by rw [he]; exact ret_int (by unfold rnd; rw [if_neg ha]), hw⟩
theorem orient_any (A : Option Addr) (n c : Nat) (l : List Spot) (w : World) (ha : SpotsAt w A l) (hl : l.length = n) (hn : n ≤ c) :
  Calls Tryz.prog 61 #[.slice A n c] w fun e w' => e = .returned (.int .i64 (cmpI (area2 l) 0)) ∧ Ext w w' := by
 have HA := Lib.hid (area2_any A n c l w ha hl hn)
 clear ha hl hn
 go_enter Tryz.func61, Tryz.ntmps61
 go_wp2_with fail
 refine (HA.out).mono ?_
 rintro e w1 ⟨rfl, he1⟩
 go_wp2_with fail
 refine (compare_any _ _ _).mono ?_
 rintro e w2 ⟨rfl, rfl⟩
 go_wp2_with fail
 go_ret
 exact ⟨rfl, he1⟩
/- the widths of the segments of the first k edges -/
def segWd (es : List Edge) (ws : List Int) : Nat → List Int
 |0 => []
 |k + 1 => segWd es ws k ++ List.replicate ((gE es k).2.length - 1) (gI ws k)
theorem segWd_len (es : List Edge) (ws : List Int) (h : ∀ i, i < es.length → (gE es i).2.length ≤ 40) : ∀ k, k ≤ es.length → (segWd es ws k).length ≤ k * 40
 |0, _ => by simp [segWd]
 |k + 1, hk => by
  have h1 := segWd_len es ws h k (by omega)
  have h2 := h k (by omega)
  simp only [segWd, List.length_append, List.length_replicate]
  omega
def RetWd (w : World) (l : List Int) (e : Ending) (w' : World) : Prop := ∃ v, e = .returned v ∧ OwnI w' w.heap.size v l ∧ Ext w w'
set_option maxRecDepth 100000 in
set_option maxHeartbeats 1600000 in
theorem segwd_any (A B : Option Addr) (n c m d : Nat) (es : List Edge) (ws : List Int) (w : World) (ha : EdgesAt w A es) (hl : es.length = n) (hn : n ≤ 1000) (hb : IntsAt w B ws) (hlb : ws.length = m) (hm : n ≤ m) (hm' : m ≤ 9223372036854775807) (hlen : ∀ k, k < n → 1 ≤ (gE es k).2.length ∧ (gE es k).2.length ≤ 40) :
  Calls Tryz.prog 57 #[.slice A n c, .slice B m d] w (RetWd w (segWd es ws n)) := by
 have HL := Lib.hid hl; have HA := Lib.hid ha; have HB := Lib.hid hb; have HLB := Lib.hid hlb; have HN := Lib.hid hlen
 have HSL := Lib.hid (segWd_len es ws (fun i hi => (hlen i (by omega)).2))
 clear hl ha hb hlb hlen
 obtain ⟨i0, hi0, hz0, hz1, hz2⟩ := info_parts int_info
 go_enter Tryz.func57, Tryz.ntmps57
 go_wp2_with fail
 go_loopw [5, 10] (fun v i wr => ∃ k : Nat, k ≤ n ∧ i = .int .i64 k ∧ OwnI wr w.heap.size v (segWd es ws k) ∧ Ext w wr) (fun _ i _ => n - (intOf i).toNat)
 case atStart => exact ⟨0, Nat.zero_le _, rfl, OwnI.nil _ _, Ext.refl _⟩
 case round =>
  obtain ⟨k, hk, rfl, ho, hx⟩ := hrel
  have HO := Lib.hid ho; have HX := Lib.hid hx
  clear ho
  by_cases hlt : k < n
  ·have hkl : k < es.length := by rw [HL.out]; exact hlt
   obtain ⟨b, off, L, cL, rfl, hc0, hc1, _, _, _⟩ := (HA.out.ext hx).g hkl
   obtain ⟨hm1, hm40⟩ := HN.out k hlt
   obtain ⟨q, hq⟩ : ∃ q, (gE es k).2.length = q + 1 := ⟨(gE es k).2.length - 1, by omega⟩
   have HSK : Hid (segWd es ws (k + 1) = segWd es ws k ++ List.replicate q (gI ws k)) := by show segWd es ws k ++ List.replicate ((gE es k).2.length - 1) (gI ws k) = _; rw [hq]; rfl
   rw [hq] at hc1 hm40
   obtain ⟨x, hxv⟩ : ∃ x, x = gI ws k := ⟨_, rfl⟩
   rw [← hxv] at HSK
   have HBK : Hid (∃ bw ow, B = some ⟨bw, ow, none⟩ ∧ w.cell? ⟨bw, ow + k, none⟩ = some (.int .i64 x)) := by
    show ∃ bw ow, _
    rw [hxv]; exact HB.out.g (by rw [HLB.out]; omega)
   have hsl : (segWd es ws k).length ≤ 40000 := by have := HSL.out k (by rw [HL.out]; omega); omega
   have HSLK := Lib.hid hsl
   obtain ⟨LK, hLK⟩ : ∃ LK, LK = segWd es ws k := ⟨_, rfl⟩
   rw [← hLK] at HO HSK HSLK
   have HLK := Lib.hid hLK
   clear hm1 hq hxv hsl hLK
   go_wp2_with fail
   refine wp_at fun W1 hW1 => ?_
   have hx1 : Ext wr W1 := by rw [hW1]; exact (Ext.refl _).alloc _
   have HX1 := Lib.hid (HX.out.trans hx1)
   have HO1 := Lib.hid (own_ext HO.out hx1)
   clear hW1 hx1 hc0 hc1
   go_loopw [5, 19] (fun v i wi => ∃ j : Nat, j ≤ q ∧ i = .int .i64 j ∧ OwnI wi w.heap.size v (LK ++ List.replicate j x) ∧ Ext w wi) (fun _ i _ => q - (intOf i).toNat)
   case atStart => exact ⟨0, Nat.zero_le _, rfl, by rw [List.replicate_zero, List.append_nil]; exact HO1.out, HX1.out⟩
   case round =>
    obtain ⟨wi, rfl⟩ : ∃ wi : World, wi = wr := ⟨_, rfl⟩
    obtain ⟨j, hj, rfl, ho, hxi⟩ := hrel
    have HOI := Lib.hid ho; have HXI := Lib.hid hxi
    clear ho hxi
    by_cases hjq : j < q
    ·obtain ⟨bw, ow, hBe, hcb⟩ := HBK.out
     subst hBe
     have hcb' := HXI.out.cell hcb
     clear hcb
     obtain ⟨LJ, hLJ⟩ : ∃ LJ, LJ = LK ++ List.replicate j x := ⟨_, rfl⟩
     rw [← hLJ] at HOI
     have HLJ := Lib.hid hLJ
     have hlj : LJ.length ≤ 41000 := by rw [hLJ, List.length_append, List.length_replicate]; have := HSLK.out; omega
     have HLL := Lib.hid hlj
     clear hLJ hlj
     go_wp2_with (at_builtin; refine wpList_append_own _ rfl (.tmp 21) (.tmp 26) 23 rfl w.heap.size 3 i0 (.int .i64 0) 1 8 Tryz.underlying23 hi0 hz0 hz1 hz2 rfl (by decide) _ LJ.length (icells LJ) rfl (World.ownsRow.alloc HOI.out _) ⟨wi.heap.size, 0, none⟩ 1 1 [.int .i64 x] rfl ?c1 ?c2 ?c3 ?c4 ?c5 ?c6 ?_)
     case c1 => rfl
     case c2 => exact World.news_of_block (cs := #[.int .i64 x]) (t := 3) (fr := (0, 0)) (heap_alloc_new wi _)
     case c3 => simp [Value.oneCell']
     case c4 => have := HLL.out; unfold maxLen; omega
     case c5 => have := HLL.out; omega
     case c6 => have := HXI.out.size; simp; omega
     intro v' w4 hown' hgrow _
     have hO' : OwnI w4 w.heap.size v' (LK ++ List.replicate (j + 1) x) := by
      rw [List.replicate_succ', ← List.append_assoc, ← HLJ.out]
      unfold OwnI icells
      rw [List.length_append, List.map_append]
      exact hown'
     have hx' : Ext w w4 := (HXI.out.alloc _).grown hgrow (fun g hg => (World.ownsRow.lt HOI.out g hg).1)
     have HO' := Lib.hid hO'; have HX' := Lib.hid hx'
     clear hO' hown' hgrow hx'
     go_wp2_with fail
     go_roundw
     case rel => exact ⟨j + 1, by omega, by go_num, HO'.out, HX'.out⟩
     case measure => simp [intOf]; omega
    ·obtain rfl : q = j := by omega
     go_wp2_with fail
     go_roundw
     case rel => exact ⟨k + 1, by omega, by go_num, by rw [HSK.out]; exact HOI.out, HXI.out⟩
     case measure => simp [intOf]; omega
  ·obtain rfl : n = k := by omega
   go_wp2_with fail
   go_ret
   exact ⟨_, rfl, HO.out, HX.out⟩
set_option maxRecDepth 100000 in
theorem fsqrt_any (x r : Nat) (h : FloatKind.f64.format.sqrt x = some r) (w : World) : Calls Tryz.prog 105 #[.float .f64 x] w fun e w' => e = .returned (.float .f64 r) ∧ w = w' := by
 have hcall : (callFunc 127 #[.float .f64 x]).run Tryz.prog w = .ok (.value (.float .f64 r)) w := by
  rw [run_callFunc_extern (e := Extern.MathSqrt.sqrt) Tryz.func127 (by kernel_rfl) (by kernel_rfl) (by kernel_rfl) (by kernel_rfl)]
  have e : Extern.MathSqrt.sqrt #[.float .f64 x] = (match FloatKind.f64.format.sqrt x with
   |some r => pure (.float .f64 r)
   |none => do pure (.float .f64 (← choose (.nanBits .f64 x x)))) := rfl
  rw [e, h]
  simp [go_sem]
 clear h
 go_enter Tryz.func105, Tryz.ntmps105
 go_wp2_with fail
 go_ret
 exact ⟨rfl, rfl⟩
/- the square root by way of the machine's numbers is a number near enough to begin with -/
def FlOk (n : Nat) : Prop := ∃ x r : Nat, FloatKind.f64.format.sqrt (floatOfInt .f64 (n : Int)) = some x ∧ floatToIntVal .f64 x .i64 = some (r : Int) ∧ r ≤ 2147483648
theorem fl_64 : FlOk 64 := ⟨4620693217682128896, 8, by kernel_rfl, by kernel_rfl, by omega⟩
theorem fl_100 : FlOk 100 := ⟨4621819117588971520, 10, by kernel_rfl, by kernel_rfl, by omega⟩
theorem fl_144 : FlOk 144 := ⟨4622945017495814144, 12, by kernel_rfl, by kernel_rfl, by omega⟩
set_option maxRecDepth 100000 in
set_option maxHeartbeats 1600000 in
theorem aroot_any (n : Nat) (w : World) (hn : n ≤ 1125899906842624) (hf : FlOk n) : Calls Tryz.prog 82 #[.int .i64 (n : Int)] w fun e w' => e = .returned (.int .i64 (rootN n)) ∧ w = w' := by
 have hr := rootN_is n (by omega)
 have HR := Lib.hid hr
 obtain ⟨x, r, h1, h2, h3⟩ := hf
 have H1 := Lib.hid (fun W => fsqrt_any _ x h1 W)
 have hcv : ∀ W : World, (convert 180 3 (.float .f64 x)).run Tryz.prog W = .ok (.int .i64 (r : Int)) W := fun W => run_convert_float_int W 180 3 .f64 .i64 x r (by kernel_rfl) (by kernel_rfl) h2
 clear hr h1 h2
 go_enter Tryz.func82, Tryz.ntmps82
 go_wp2_with fail
 refine (H1.out _).mono ?_
 rintro e w1 ⟨rfl, rfl⟩
 go_wp2_with fail
 go_loopw [3] (fun v wr => ∃ y : Nat, v = .int .i64 y ∧ y ≤ 2147483648 ∧ wr = w) (fun v _ => (intOf v).toNat)
 case atStart => exact ⟨r, rfl, h3, rfl⟩
 case round =>
  obtain ⟨y, rfl, hy, hwr⟩ := hrel
  have hyy : (y : Int) * y ≤ 4611686018427387904 := by
   have := Nat.mul_le_mul hy hy
   have e : ((y * y : Nat) : Int) = (y : Int) * y := by simp
   omega
  have hyy0 : (0 : Int) ≤ (y : Int) * y := Int.mul_nonneg (by omega) (by omega)
  obtain ⟨Y, hY⟩ : ∃ Y : Int, Y = (y : Int) * y := ⟨_, rfl⟩
  have HY := Lib.hid hY
  by_cases hgt : (n : Int) < (y : Int) * y
  ·have hy0 : y ≠ 0 := by rintro rfl; simp at hgt; omega
   clear hY
   go_wp2_with fail
   go_roundw
   case rel => exact ⟨y - 1, by go_num, by omega, by first | exact hwr | trivial⟩
   case measure => simp [intOf]; omega
  ·clear hY
   go_wp2_with fail
   have hw' := hwr.symm
   subst hw'
   go_loopw [3] (fun v wr => ∃ z : Nat, v = .int .i64 z ∧ z * z ≤ n ∧ wr = w) (fun v _ => 67108864 - (intOf v).toNat)
   case atStart => exact ⟨y, rfl, by
    have e : ((y * y : Nat) : Int) = (y : Int) * y := by simp
    omega, rfl⟩
   case round =>
    obtain ⟨z, rfl, hz, hwr2⟩ := hrel
    have hz1 : z ≤ 33554432 := by
     rcases Nat.lt_or_ge 33554432 z with h | h
     ·have := Nat.mul_le_mul (show 33554433 ≤ z by omega) (show 33554433 ≤ z by omega)
      omega
     ·exact h
    have hzz : ((z : Int) + 1) * ((z : Int) + 1) ≤ 4611686018427387904 := by
     have := Nat.mul_le_mul (show z + 1 ≤ 33554433 by omega) (show z + 1 ≤ 33554433 by omega)
     have e : (((z + 1) * (z + 1) : Nat) : Int) = ((z : Int) + 1) * ((z : Int) + 1) := by simp
     omega
    have hzz0 : (0 : Int) ≤ ((z : Int) + 1) * ((z : Int) + 1) := Int.mul_nonneg (by omega) (by omega)
    have HE : Hid ((((z + 1) * (z + 1) : Nat) : Int) = ((z : Int) + 1) * ((z : Int) + 1)) := by show _ = _; simp
    by_cases hle : ((z : Int) + 1) * ((z : Int) + 1) ≤ (n : Int)
    ·go_wp2_with fail
     go_roundw
     case rel => exact ⟨z + 1, by go_num, by have := HE.out; omega, by first | exact hwr2 | trivial⟩
     case measure => simp [intOf]; omega
    ·go_wp2_with fail
     go_ret
     exact ⟨ret_int (by rw [root_one HR.out.1 HR.out.2 hz (by have := HE.out; omega)]), by first | exact hwr2.symm | rfl⟩
/- a moved segment: where it begins and ends, its width -/
abbrev SegW := Spot × Spot × Int
def shiftV (sg : Int) (p q : Spot) (w : Int) : Spot := (rnd (sg * w * (q.2 - p.2)) (rootN (sqN p q)), rnd (-(sg * w) * (q.1 - p.1)) (rootN (sqN p q)))
def shiftsV (sg : Int) (vs : List Spot) (each : List Int) : List Spot := (List.range vs.length).map fun i => shiftV sg (gS vs i) (gS vs ((i + 1) % vs.length)) (gI each i)
/- vertices whose sides are moved -/
structure VOk (vs : List Spot) : Prop where
 n3 : 3 ≤ vs.length
 n40 : vs.length ≤ 40
 b : ∀ i, i < vs.length → inB (gS vs i)
 d : ∀ i, i < vs.length → 1 ≤ sqN (gS vs i) (gS vs ((i + 1) % vs.length))
 f : ∀ i, i < vs.length → FlOk (sqN (gS vs i) (gS vs ((i + 1) % vs.length)))
structure WOk (ws : List Int) : Prop where
 r : ∀ i, i < ws.length → 0 ≤ gI ws i ∧ gI ws i ≤ 500
def sgOf (vs : List Spot) : Int := cmpI (area2 vs) 0
def shOf (es : List Edge) (ws : List Int) : List Spot := shiftsV (sgOf (verts es)) (verts es) (segWd es ws es.length)
theorem shOf_len (es : List Edge) (ws : List Int) : (shOf es ws).length = (verts es).length := by simp [shOf, shiftsV]
theorem shOf_get {es : List Edge} {ws : List Int} {i : Nat} (h : i < (verts es).length) : gS (shOf es ws) i = shiftV (sgOf (verts es)) (gS (verts es) i) (gS (verts es) ((i + 1) % (verts es).length)) (gI (segWd es ws es.length) i) := by
 rw [gS_eq (by rw [shOf_len]; exact h)]; simp [shOf, shiftsV]
theorem segWd_r {es : List Edge} {ws : List Int} (hw : WOk ws) : ∀ k, k ≤ ws.length → ∀ x, x ∈ segWd es ws k → 0 ≤ x ∧ x ≤ 500
 |0, _, x, h => by simp [segWd] at h
 |k + 1, hk, x, h => by
  simp only [segWd, List.mem_append] at h
  rcases h with h | h
  ·exact segWd_r hw k (by omega) x h
  ·rw [List.eq_of_mem_replicate h]; exact hw.r k (by omega)
theorem segWd_off (es : List Edge) (ws : List Int) : ∀ k, k ≤ es.length → (segWd es ws k).length = (verts (es.take k)).length
 |0, _ => by simp [segWd, verts]
 |k + 1, hk => by
  rw [verts_succ (by omega), List.length_append, List.length_dropLast, ← segWd_off es ws k (by omega)]
  simp [segWd]
theorem segWd_vl (es : List Edge) (ws : List Int) : (segWd es ws es.length).length = (verts es).length := by
 rw [segWd_off es ws es.length (Nat.le_refl _), List.take_of_length_le (Nat.le_refl _)]
theorem cmpI_sg (x : Int) : cmpI x 0 = -1 ∨ cmpI x 0 = 0 ∨ cmpI x 0 = 1 := by unfold cmpI; split; exact .inl rfl; split; exact .inr (.inr rfl); exact .inr (.inl rfl)
theorem aroot_int (n : Int) (w : World) (h0 : 0 ≤ n) (h1 : n ≤ 1125899906842624) (hf : FlOk n.toNat) : Calls Tryz.prog 82 #[.int .i64 n] w fun e w' => e = .returned (.int .i64 (rootN n.toNat)) ∧ w = w' := by
 have h := aroot_any n.toNat w (by omega) hf
 rwa [Int.toNat_of_nonneg h0] at h
def RetTs (w : World) (l : List Spot) (e : Ending) (w' : World) : Prop := ∃ v, e = .returned (.tuple #[v, .int .i64 0]) ∧ OwnS w' w.heap.size v l ∧ Ext w w'
theorem sq_int {p q : Spot} (hp : inB p) (hq : inB q) : ((sqN p q : Nat) : Int) = (q.1 - p.1) * (q.1 - p.1) + (q.2 - p.2) * (q.2 - p.2) := by
 obtain ⟨p1, p2, p3, p4⟩ := hp; obtain ⟨q1, q2, q3, q4⟩ := hq
 have h1 := (sq_bound (d := q.1 - p.1) (by omega) (by omega)).1
 have h2 := (sq_bound (d := q.2 - p.2) (by omega) (by omega)).1
 unfold sqN; exact Int.toNat_of_nonneg (by omega)
theorem mul_wd {s w d : Int} (hs : s = -1 ∨ s = 0 ∨ s = 1) (h0 : 0 ≤ w) (h1 : w ≤ 500) (hd : -2097152 ≤ d) (hd' : d ≤ 2097152) : -500 ≤ s * w ∧ s * w ≤ 500 ∧ -1048576000 ≤ s * w * d ∧ s * w * d ≤ 1048576000 := by
 have h2 : w * d ≤ w * 2097152 := Int.mul_le_mul_of_nonneg_left hd' h0
 have h3 : w * (-2097152) ≤ w * d := Int.mul_le_mul_of_nonneg_left hd h0
 rcases hs with rfl | rfl | rfl
 ·rw [Int.neg_one_mul, Int.neg_mul]; omega
 ·simp
 ·rw [Int.one_mul]; omega
set_option maxRecDepth 100000 in
set_option maxHeartbeats 3200000 in
theorem shifts_any (A B : Option Addr) (n c d : Nat) (es : List Edge) (ws : List Int) (w : World) (ha : EdgesAt w A es) (hl : es.length = n) (hnc : n ≤ c) (hc : c ≤ 9223372036854775807) (hb : IntsAt w B ws) (hlb : ws.length = n) (hO : ocheck es = 0) (hW : WOk ws) (hV : VOk (verts es)) :
  Calls Tryz.prog 55 #[.slice A n c, .slice B n d] w (RetTs w (shOf es ws)) := by
 have hok := ocheck_ok hO
 have hn16 : n ≤ 16 := by rw [← hl]; exact hok.2.1
 have HL := Lib.hid hl; have HA := Lib.hid ha; have HB := Lib.hid hb; have HLB := Lib.hid hlb; have HO := Lib.hid hO; have HW := Lib.hid hW; have HV := Lib.hid hV
 have HLN := Lib.hid (fun k (hk : k < n) => (⟨by have := (lcheck_len (edge_ok ((firstE_zero _ _).1 hok.2.2 k (by rw [hl]; exact hk)))).1; omega, (lcheck_len (edge_ok ((firstE_zero _ _).1 hok.2.2 k (by rw [hl]; exact hk)))).2⟩ : 1 ≤ (gE es k).2.length ∧ (gE es k).2.length ≤ 40))
 clear hl ha hb hlb hO hW hV hok
 go_enter Tryz.func55, Tryz.ntmps55
 go_wp2_with fail
 refine (polygon_any A n c es w HA.out HL.out hnc hc).mono ?_
 rintro e w1 ⟨v1, rfl, hv1, _, he1⟩
 have hv1 := hv1 HO.out
 rw [HO.out]
 have HX1 := Lib.hid he1
 obtain ⟨A1, cap1, rfl, hS1, hcap1, hcap1'⟩ := hv1.slice
 have HS1 := Lib.hid hS1
 clear hv1 hS1 he1
 have h3 := HV.out.n3
 have h40 := HV.out.n40
 obtain ⟨N, hN⟩ : ∃ N, N = (verts es).length := ⟨_, rfl⟩
 rw [← hN] at h3 h40 hcap1 ⊢
 have HNE := Lib.hid hN
 clear hN
 go_wp2_with fail
 go_loopw [35] (fun i wr => ∃ k : Nat, k ≤ n ∧ i = .int .i64 k ∧ wr = w1) (fun i _ => n - (intOf i).toNat)
 case atStart => exact ⟨0, Nat.zero_le _, rfl, rfl⟩
 case round =>
  obtain ⟨k, hk, rfl, hwr⟩ := hrel
  have HWR := Lib.hid hwr
  clear hwr
  by_cases hlt : k < n
  ·obtain ⟨bw, ow, rfl, hc0⟩ := (HB.out.ext HX1.out).g (k := k) (by rw [HLB.out]; exact hlt)
   rw [← HWR.out] at hc0
   obtain ⟨hr0, hr5⟩ := HW.out.r k (by rw [HLB.out]; exact hlt)
   obtain ⟨x, hx⟩ : ∃ x, x = gI ws k := ⟨_, rfl⟩
   rw [← hx] at hc0 hr0 hr5
   clear hx
   have hr0' : ¬ x < 0 := by omega
   have hr5' : ¬ 500 < x := by omega
   go_wp2_with fail
   go_roundw
   case rel => exact ⟨k + 1, by omega, by go_num, HWR.out⟩
   case measure => simp [intOf]; omega
  ·obtain rfl : n = k := by omega
   have hw' := HWR.out.symm
   subst hw'
   clear HWR hlt
   go_wp2_with fail
   refine (orient_any A1 N cap1 (verts es) w1 HS1.out HNE.out.symm hcap1).mono ?_
   rintro e w2 ⟨rfl, he2⟩
   have HX2 := Lib.hid (HX1.out.trans he2); have HS2 := Lib.hid (HS1.out.ext he2)
   obtain ⟨sg, hsg⟩ : ∃ s, s = cmpI (area2 (verts es)) 0 := ⟨_, rfl⟩
   rw [← hsg]
   have HSG : Hid (sgOf (verts es) = sg) := hsg.symm
   have HSG3 : Hid (sg = -1 ∨ sg = 0 ∨ sg = 1) := by show _ ∨ _; rw [hsg]; exact cmpI_sg _
   clear hsg he2 HX1 HS1
   go_wp2_with fail
   refine (segwd_any A B n c n d es ws w2 (HA.out.ext HX2.out) HL.out (by omega) (HB.out.ext HX2.out) HLB.out (Nat.le_refl _) (by omega) HLN.out).mono ?_
   rintro e w3 ⟨v3, rfl, hv3, he3⟩
   have HX3 := Lib.hid (HX2.out.trans he3); have HS3 := Lib.hid (HS2.out.ext he3)
   obtain ⟨A3, cap3, rfl, hE3, hcap3, hcap3'⟩ := hv3.slice
   have HE3 := Lib.hid hE3
   have HEL : Hid ((segWd es ws n).length = N) := by show _ = _; rw [← HL.out, segWd_vl, HNE.out]
   rw [HEL.out] at hcap3 ⊢
   clear hv3 hE3 he3 HX2 HS2
   have hmk := fun W : World => make_spots N (by omega) W
   go_wp2_with fail
   refine wp_at fun w4 hw4 => ?_
   have HB4 : Hid (BlkS w4 w3.heap.size (List.replicate N (0, 0))) := by show BlkS _ _ _; rw [hw4, made_two]; exact BlkS.new _ _
   have HX4 : Hid (Ext w w4) := by show Ext _ _; rw [hw4]; exact HX3.out.alloc _
   have HX34 : Hid (Ext w3 w4) := by show Ext _ _; rw [hw4]; exact (Ext.refl _).alloc _
   have HGL : Hid (w.heap.size ≤ w3.heap.size) := HX3.out.size
   clear hw4 hmk
   obtain ⟨G, hG⟩ : ∃ G, G = w3.heap.size := ⟨_, rfl⟩
   have HG3 : Hid (w3.heap.size ≤ G) := Nat.le_of_eq hG.symm
   rw [← hG] at HB4 HGL ⊢
   clear hG
   go_loopw [56] (fun i wr => ∃ (k : Nat) (L : List Spot), k ≤ N ∧ i = .int .i64 k ∧ BlkS wr G L ∧ L.length = N ∧ (∀ j, j < k → gS L j = gS (shOf es ws) j) ∧ Ext w3 wr) (fun i _ => N - (intOf i).toNat)
   case atStart => exact ⟨0, _, Nat.zero_le _, rfl, HB4.out, by simp, fun j hj => absurd hj (Nat.not_lt_zero _), HX34.out⟩
   case round =>
    obtain ⟨wi, rfl⟩ : ∃ wi : World, wi = wr := ⟨_, rfl⟩
    obtain ⟨k, LS, hk, rfl, hbl, hll, hls, hxi⟩ := hrel
    have HBL := Lib.hid hbl; have HLL := Lib.hid hll; have HLS := Lib.hid hls; have HXI := Lib.hid hxi
    clear hbl hll hls hxi
    by_cases hlt : k < N
    ·have hm1 : (k + 1) % N < N := Nat.mod_lt _ (by omega)
     have HVB := Lib.hid (HV.out.b k (by rw [← HNE.out]; exact hlt)); have HVB1 := Lib.hid (HV.out.b ((k + 1) % N) (by rw [← HNE.out]; exact hm1))
     have HVD := Lib.hid (HV.out.d k (by rw [← HNE.out]; exact hlt)); have HVF := Lib.hid (HV.out.f k (by rw [← HNE.out]; exact hlt))
     have HSG4 := Lib.hid (shOf_get (es := es) (ws := ws) (i := k) (by rw [← HNE.out]; exact hlt))
     rw [HSG.out, HL.out] at HSG4
     rw [← HNE.out] at HVD HVF HSG4
     have HWR2 := Lib.hid (segWd_r (es := es) HW.out n (by rw [HLB.out]; exact Nat.le_refl _) (gI (segWd es ws n) k) (by rw [gI_eq (by rw [HEL.out]; exact hlt)]; exact List.getElem_mem _))
     obtain ⟨b, off, rfl, hc0, hc1⟩ := (HS3.out.ext HXI.out).g (k := k) (by rw [← HNE.out]; exact hlt)
     obtain ⟨hd0, hd1⟩ := (HS3.out.ext HXI.out).at1 (k := (k + 1) % N) (by rw [← HNE.out]; exact hm1)
     obtain ⟨be, oe, rfl, he0⟩ := (HE3.out.ext HXI.out).g (k := k) (by rw [HEL.out]; exact hlt)
     obtain ⟨ew, hew⟩ : ∃ x, x = gI (segWd es ws n) k := ⟨_, rfl⟩
     rw [← hew] at HWR2 he0 HSG4
     obtain ⟨⟨px, py⟩, hp⟩ : ∃ p, p = gS (verts es) k := ⟨_, rfl⟩
     obtain ⟨⟨qx, qy⟩, hq⟩ : ∃ q, q = gS (verts es) ((k + 1) % N) := ⟨_, rfl⟩
     rw [← hp] at hc0 hc1 HVB HVD HVF HSG4
     rw [← hq] at hd0 hd1 HVB1 HVD HVF HSG4
     simp only at hc0 hc1 hd0 hd1
     clear hew hp hq
     have hbl : b < wi.heap.size := cell_lt hc0
     have hbl1 : b < wi.heap.size + 1 := by omega
     have hbe : be < wi.heap.size := cell_lt he0
     have hbe1 : be < wi.heap.size + 1 := by omega
     have hbe2 : be < wi.heap.size + 1 + 1 := by omega
     obtain ⟨hj0, hj1, hj2⟩ := mod_idx k N 1 1 rfl (by omega)
     obtain ⟨p1, p2, p3, p4⟩ := HVB.out
     obtain ⟨q1, q2, q3, q4⟩ := HVB1.out
     simp only at p1 p2 p3 p4 q1 q2 q3 q4
     obtain ⟨r0, r5⟩ := HWR2.out
     have HSQ := Lib.hid (sq_int HVB.out HVB1.out)
     simp only at HSQ
     have hx0 : (0 : Int) ≤ (qx - px) * (qx - px) := (sq_bound (by omega) (by omega)).1
     have hx1 : (qx - px) * (qx - px) ≤ 4398046511104 := (sq_bound (by omega) (by omega)).2
     have hy0 : (0 : Int) ≤ (qy - py) * (qy - py) := (sq_bound (by omega) (by omega)).1
     have hy1 : (qy - py) * (qy - py) ≤ 4398046511104 := (sq_bound (by omega) (by omega)).2
     obtain ⟨m1, m2, m3, m4⟩ := mul_wd (d := qy - py) HSG3.out r0 r5 (by omega) (by omega)
     obtain ⟨_, _, m5, m6⟩ := mul_wd (d := qx - px) HSG3.out r0 r5 (by omega) (by omega)
     have m7 : -1048576000 ≤ -(sg * ew) * (qx - px) := by rw [Int.neg_mul]; omega
     have m8 : -(sg * ew) * (qx - px) ≤ 1048576000 := by rw [Int.neg_mul]; omega
     go_wp2_with fail
     go_quiet (fail)
     clear hc0 hc1 hd0 hd1 he0 hj0 hj1 hj2 hbl hbl1 hbe hbe1 hbe2
     have hfl : FlOk ((qx - px) * (qx - px) + (qy - py) * (qy - py)).toNat := by
      have e : ((qx - px) * (qx - px) + (qy - py) * (qy - py)).toNat = sqN (px, py) (qx, qy) := rfl
      rw [e]; exact HVF.out
     have HFL := Lib.hid hfl
     clear hfl
     go_wp2_with fail
     refine (aroot_int _ _ (by omega) (by omega) HFL.out).mono ?_
     rintro e w5 ⟨rfl, hw5⟩
     have hrt : ((qx - px) * (qx - px) + (qy - py) * (qy - py)).toNat = sqN (px, py) (qx, qy) := rfl
     rw [hrt]
     obtain ⟨R, hR⟩ : ∃ R, R = rootN (sqN (px, py) (qx, qy)) := ⟨_, rfl⟩
     have hR1 : 1 ≤ R := by
      have h1 := (rootN_is (sqN (px, py) (qx, qy)) (by have := sqN_le HVB.out HVB1.out; omega)).2
      rw [← hR] at h1
      rcases Nat.eq_zero_or_pos R with h | h
      ·subst h; have := HVD.out; omega
      ·exact h
     have hR2 : R ≤ 4294967296 := by rw [hR]; exact rootN_le _ (by have := sqN_le HVB.out HVB1.out; omega)
     rw [← hR]
     have HRE := Lib.hid hR
     have hx5 : Ext wi w5 := by rw [← hw5]; exact (((Ext.refl _).alloc _).alloc _).drewN _
     have HX5 := Lib.hid (HXI.out.trans hx5)
     have HBL5 := Lib.hid (HBL.out.ext hx5)
     clear hw5 hx5 hrt hR HFL
     have hgl := HBL5.out.lt
     go_wp2_with fail
     refine (arounded_any _ _ _ (by omega) (by omega) (by omega) (by omega)).mono ?_
     rintro e w6 ⟨rfl, rfl⟩
     go_wp2_with fail
     refine (arounded_any _ _ _ (by omega) (by omega) (by omega) (by omega)).mono ?_
     rintro e w7 ⟨rfl, rfl⟩
     obtain ⟨t0, t1⟩ := HBL5.out.at (k := k) (by rw [HLL.out]; exact hlt)
     have tf0 := HBL5.out.frozen (k * 2)
     have tf1 := HBL5.out.frozen (k * 2 + 1)
     go_wp2_with fail
     go_roundw
     case rel =>
      refine ⟨k + 1, LS.set k (rnd (sg * ew * (qy - py)) R, rnd (-(sg * ew) * (qx - px)) R), by omega, by go_num, HBL5.out.set k (rnd (sg * ew * (qy - py)) R, rnd (-(sg * ew) * (qx - px)) R), by rw [List.length_set, HLL.out], fun j hj => ?_, Ext.setCell (p := ⟨G, k * 2 + 1, none⟩) (Ext.setCell (p := ⟨G, k * 2, none⟩) HX5.out HG3.out _) HG3.out _⟩
      rw [gS_set (by rw [HLL.out]; exact hlt)]
      by_cases hjk : j = k
      ·subst hjk
       rw [if_pos rfl, HSG4.out, HRE.out]
       rfl
      ·rw [if_neg hjk]; exact HLS.out j (by omega)
     case measure => simp [intOf]; omega
    ·obtain rfl : N = k := by omega
     have hLe : LS = shOf es ws := list_ext_gS (by rw [HLL.out, shOf_len, HNE.out]) (fun p hp => HLS.out p (by rw [← HLL.out]; exact hp))
     have HBE := Lib.hid (hLe ▸ HBL.out)
     clear hLe
     go_wp2_with fail
     go_ret2
     refine ⟨_, rfl, ?_, HX3.out.trans HXI.out⟩
     have h := HBE.out.own HGL.out (by rw [shOf_len, ← HNE.out]; omega)
     rw [shOf_len, ← HNE.out] at h
     exact h
end Go.Proofs.YtfegbaokcbjllaaGreat
