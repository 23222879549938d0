/- rows of moved segments in memory; the points of an outline with its allowances, plain -/
import Derived.Test.YtfegbaokcbjllaaGreatKAlw3
/- allowance.corner. Written by gencorner.py. -/
namespace Go.Proofs.YtfegbaokcbjllaaGreat
open Go.RowKit
section
variable {t : TypeId} {w w' : World} {G : Nat} {cs : List Value} {v : Value}
def IsOkP (x y : Rat) : Value → World → Prop := IsOk0 (IsP x y)
theorem IsOkP.kp (x y : Rat) : Kp (IsOkP x y) := fun v w w' he h => by obtain ⟨u, h1, h2⟩ := h; exact ⟨u, h1, h2.ext he⟩
theorem IsOkP.oth {x y : Rat} (hb : Blk t w G cs) (hn : nou cs = true) (k : Kept (fun b => b = G) w w') (h : IsOkP x y v w) : IsOkP x y v w' := by obtain ⟨u, h1, h2⟩ := h; exact ⟨u, h1, h2.oth hb hn k⟩
end
/- a point in a block of the call's own -/
def StP (n : Nat) (x y : Rat) : Value → World → Prop := fun v w => ∃ g u d u' d', v = .pointer (some ⟨g, 0, none⟩) ∧ n ≤ g ∧ Blk 155 w g [.bool (negI x.num), u, d, .bool (negI y.num), u', d'] ∧ NatAt w u x.num.natAbs ∧ NatAt w d x.den ∧ NatAt w u' y.num.natAbs ∧ NatAt w d' y.den
theorem StP.kp (n : Nat) (x y : Rat) : Kp (StP n x y) := fun v w w' he h => by obtain ⟨g, u, d, u', d', h1, h2, h3, h4, h5, h6, h7⟩ := h; exact ⟨g, u, d, u', d', h1, h2, h3.ext he, h4.ext he, h5.ext he, h6.ext he, h7.ext he⟩
theorem inC.r1 {s : Int × Int} (h : inC s) : -9223372036854775808 ≤ s.1 ∧ s.1 ≤ 9223372036854775807 := by have := h.1; have := cb_sz; omega
theorem inC.r2 {s : Int × Int} (h : inC s) : -9223372036854775808 ≤ s.2 ∧ s.2 ≤ 9223372036854775807 := by have := h.2; have := cb_sz; omega
theorem exactC_any (s : Spot) (w : World) (h : inC s) : Calls Tryz.prog 85 #[SV s] w (Ret (IsP (s.1 : Rat) (s.2 : Rat)) w) := exact_any s w h.r1 h.r2
theorem ptd_le {a b c d : Int × Int} (ia : inC a) (ib : inC b) (ic : inC c) (id' : inC d) (hB : ptB a b c d ≠ 0) : (ptX a b c d).num.natAbs < 2 ^ 81 ∧ (ptX a b c d).den ≤ 8 * (CB * CB) ∧ (ptY a b c d).num.natAbs < 2 ^ 81 ∧ (ptY a b c d).den ≤ 8 * (CB * CB) := by
 obtain ⟨t1, t2⟩ := ptT_le ia ic id' hB
 have t3 := ptB_le ia ib ic id'
 have m1 := mulT_le (abs_sub ib.1 ia.1) t1
 have m2 := mulT_le (abs_sub ib.2 ia.2) t1
 have a1 := addT_le ia.1 m1.1 (by omega)
 have a2 := addT_le ia.2 m2.1 (by omega)
 unfold ptX ptY
 exact ⟨a1.1, by omega, a2.1, by omega⟩
theorem psubV_any (a b c d s : Int × Int) (v v' : Value) (w : World) (h : IsP (ptX a b c d) (ptY a b c d) v w) (h' : IsP (s.1 : Rat) (s.2 : Rat) v' w) (ia : inC a) (ib : inC b) (ic : inC c) (id' : inC d) (is : inC s) (hB : ptB a b c d ≠ 0) : Calls Tryz.prog 87 #[v, v'] w (Ret (IsP (ptX a b c d - (s.1 : Rat)) (ptY a b c d - (s.2 : Rat))) w) := by
 obtain ⟨h1, h2, h3, h4⟩ := ptd_le ia ib ic id' hB
 have t4 := cb2; have t5 := cb_db
 have e81 : (2 : Nat) ^ 81 = 2417851639229258349412352 := by decide
 have e82 : (2 : Nat) ^ 82 = 4835703278458516698824704 := by decide
 have hi : ∀ z : Int, z.natAbs ≤ CB → RB (z : Rat) := fun z hz => int1 (by omega)
 exact psub_any _ _ _ _ v v' w h h' (rb_lt (by omega) (by omega)) (hi _ is.1) (rb_lt (by omega) (by omega)) (hi _ is.2) (by rw [den_int]; omega) (by rw [den_int]; omega) (by rw [den_int]; exact db_one) (by rw [den_int]; exact db_one)
theorem gridC_any (a b c d s : Int × Int) (v : Value) (w : World) (h : IsP (ptX a b c d - (s.1 : Rat)) (ptY a b c d - (s.2 : Rat)) v w) (ia : inC a) (ib : inC b) (ic : inC c) (id' : inC d) (is : inC s) (hB : ptB a b c d ≠ 0) :
  Calls Tryz.prog 86 #[v] w fun e w' => e = .returned (.tuple #[SV (gridV (rndZ (ptX a b c d - (s.1 : Rat))) (rndZ (ptY a b c d - (s.2 : Rat)))), .int .i64 (gridE (rndZ (ptX a b c d - (s.1 : Rat))) (rndZ (ptY a b c d - (s.2 : Rat))))]) ∧ Ext w w' := by
 obtain ⟨h1, h2, h3, h4⟩ := ptd_le ia ib ic id' hB
 have t4 := cb2; have t5 := cb_db
 have e82 : (2 : Nat) ^ 82 = 4835703278458516698824704 := by decide
 have s1 := subT_le is.1 h1 h2
 have s2 := subT_le is.2 h3 h4
 exact grid_any _ _ v w h (rb_lt (by omega) (by omega)) (rb_lt (by omega) (by omega)) (by omega) (by omega)
def cornerL (vx vy ax ay ax' ay' bx b_y bx' b_y' aw bw : Int) : List Spot :=
 if gridE (rndZ (ptX (ax, ay) (ax', ay') (bx, b_y) (bx', b_y') - ((vx : Int) : Rat))) (rndZ (ptY (ax, ay) (ax', ay') (bx, b_y) (bx', b_y') - ((vy : Int) : Rat))) = 0 ∧ inSB (gridV (rndZ (ptX (ax, ay) (ax', ay') (bx, b_y) (bx', b_y') - ((vx : Int) : Rat))) (rndZ (ptY (ax, ay) (ax', ay') (bx, b_y) (bx', b_y') - ((vy : Int) : Rat)))) (4 * max aw bw + 4) = true
 then [addS (vx, vy) (gridV (rndZ (ptX (ax, ay) (ax', ay') (bx, b_y) (bx', b_y') - ((vx : Int) : Rat))) (rndZ (ptY (ax, ay) (ax', ay') (bx, b_y) (bx', b_y') - ((vy : Int) : Rat))))] else [(ax', ay'), (bx, b_y)]
set_option maxRecDepth 100000 in
set_option maxHeartbeats 6400000 in
theorem corner1_any (vx vy ax ay ax' ay' bx b_y bx' b_y' aw bw : Int) (w : World) (iv : inC (vx, vy)) (ia : inC (ax, ay)) (ia' : inC (ax', ay')) (ib : inC (bx, b_y)) (ib' : inC (bx', b_y')) (hwa : 0 ≤ aw ∧ aw ≤ 500) (hwb : 0 ≤ bw ∧ bw ≤ 500) (hB : ptB (ax, ay) (ax', ay') (bx, b_y) (bx', b_y') ≠ 0) :
  Calls Tryz.prog 59 #[SV (vx, vy), .agg #[.int .i64 ax, .int .i64 ay, .int .i64 ax', .int .i64 ay', .int .i64 aw], .agg #[.int .i64 bx, .int .i64 b_y, .int .i64 bx', .int .i64 b_y', .int .i64 bw]] w (RetS w (cornerL vx vy ax ay ax' ay' bx b_y bx' b_y' aw bw)) := by
 have HB := Lib.hid hB; have HIV := Lib.hid iv; have HIA := Lib.hid ia; have HIA' := Lib.hid ia'; have HIB := Lib.hid ib; have HIB' := Lib.hid ib'
 have HWA := Lib.hid hwa; have HWB := Lib.hid hwb
 clear hB iv ia ia' ib ib' hwa hwb
 simp only [SV]
 obtain ⟨X, hX⟩ : ∃ X, ptX (ax, ay) (ax', ay') (bx, b_y) (bx', b_y') = X := ⟨_, rfl⟩
 obtain ⟨Y, hY⟩ : ∃ Y, ptY (ax, ay) (ax', ay') (bx, b_y) (bx', b_y') = Y := ⟨_, rfl⟩
 have HXE := Lib.hid hX; have HYE := Lib.hid hY
 clear hX hY
 go_enter Tryz.func59, Tryz.ntmps59
 go_upto_region 1 with fail
 refine wp_at fun W0 hW0 => ?_
 have HX0 : Hid (Ext w W0) := by show Ext _ _; rw [hW0]; exact (((Ext.refl _).alloc _).alloc _).alloc _
 have HB1 : Hid (Blk 49 W0 (w.heap.size) [.int .i64 vx, .int .i64 vy]) := by show Blk _ _ _ _; rw [hW0]; exact ((Blk.new' rfl).ext ((Ext.refl _).alloc _)).ext ((Ext.refl _).alloc _)
 have HB2 : Hid (Blk 120 W0 (w.heap.size + 1) [.int .i64 ax, .int .i64 ay, .int .i64 ax', .int .i64 ay', .int .i64 aw]) := by show Blk _ _ _ _; rw [hW0]; exact (Blk.new' (by simp)).ext ((Ext.refl _).alloc _)
 have HB3 : Hid (Blk 120 W0 (w.heap.size + 1 + 1) [.int .i64 bx, .int .i64 b_y, .int .i64 bx', .int .i64 b_y', .int .i64 bw]) := by show Blk _ _ _ _; rw [hW0]; exact Blk.new' (by simp)
 clear hW0
 refine region_slotsP (l := 18) (m := 1) (N := 59) (ai := 16) (si := 17) (da := 7) (W0 := W0) [12, 13, 14, 15, 16, 17, 18, 19, 20, 21, 22, 23, 24, 11, 25, 26, 7, 1059] [Fx (.pointer (some ⟨w.heap.size + 1, 0, none⟩)), Fx (.agg #[.int .i64 ax, .int .i64 ay]), IsP ((ax : Int) : Rat) ((ay : Int) : Rat), Fx (.pointer (some ⟨w.heap.size + 1, 2, none⟩)), Fx (.agg #[.int .i64 ax', .int .i64 ay']), IsP ((ax' : Int) : Rat) ((ay' : Int) : Rat), Fx (.pointer (some ⟨w.heap.size + 1 + 1, 0, none⟩)), Fx (.agg #[.int .i64 bx, .int .i64 b_y]), IsP ((bx : Int) : Rat) ((b_y : Int) : Rat), Fx (.pointer (some ⟨w.heap.size + 1 + 1, 2, none⟩)), Fx (.agg #[.int .i64 bx', .int .i64 b_y']), IsP ((bx' : Int) : Rat) ((b_y' : Int) : Rat), IsOkP (X) (Y), IsOkP (X) (Y), IsP (X) (Y), Fx (.int .i64 0), IsNew 155 W0.heap.size [.bool false, .slice none 0 0, .slice none 0 0, .bool false, .slice none 0 0, .slice none 0 0], Any] (StP W0.heap.size (X) (Y)) (by kernel_rfl) (by omega) (by kernel_rfl) (by kernel_rfl) (Ext.refl _) ?kp (StP.kp _ _ _) (fun i hi his => ?_) ?st (fun xs w1 hx hT => ?_)
 case kp => exact ⟨Fx.kp _, Fx.kp _, IsP.kp _ _, Fx.kp _, Fx.kp _, IsP.kp _ _, Fx.kp _, Fx.kp _, IsP.kp _ _, Fx.kp _, Fx.kp _, IsP.kp _ _, IsOkP.kp _ _, IsOkP.kp _ _, IsP.kp _ _, Fx.kp _, IsNew.kp _ _ _, Any.kp, trivial⟩
 case st =>
  refine so rfl ?_
  intro fb wi hx hb hd K hK
  have y7 : IsNew 155 W0.heap.size [.bool false, .slice none 0 0, .slice none 0 0, .bool false, .slice none 0 0, .slice none 0 0] (fb.eval (.tmp 7)) wi := hd 16 7 rfl (by kernel_rfl)
  have y25 : IsP (X) (Y) (fb.eval (.tmp 25)) wi := hd 14 25 rfl (by kernel_rfl)
  obtain ⟨u1, u2, u3, u4, x25, g1, g2, g3, g4⟩ := y25
  obtain ⟨A1, k1, c1, rfl⟩ := g1.form
  obtain ⟨A2, k2, c2, rfl⟩ := g2.form
  obtain ⟨A3, k3, c3, rfl⟩ := g3.form
  obtain ⟨A4, k4, c4, rfl⟩ := g4.form
  obtain ⟨g, x7, hg, hb5⟩ := y7
  obtain ⟨e0, e1, e2, e3, e4, e5⟩ := blk6c hb5
  obtain ⟨f0, f1, f2, f3, f4, f5⟩ := blk6f hb5
  refine step_skipR (wanted_all rfl) (w' := ((((((wi).setCell ⟨g, 0, none⟩ (.bool (negI (X).num))).setCell ⟨g, 1, none⟩ (.slice A1 k1 c1)).setCell ⟨g, 2, none⟩ (.slice A2 k2 c2)).setCell ⟨g, 3, none⟩ (.bool (negI (Y).num))).setCell ⟨g, 4, none⟩ (.slice A3 k3 c3)).setCell ⟨g, 5, none⟩ (.slice A4 k4 c4)) (fun ρ hρ hc => ?_) (hK _ (kext hx hg (ks6 wi g (.bool (negI (X).num)) (.slice A1 k1 c1) (.slice A2 k2 c2) (.bool (negI (Y).num)) (.slice A3 k3 c3) (.slice A4 k4 c4))) (fun j hj hja hjs => ?_) (⟨g, _, _, _, _, x7, hg, (((((hb5.set 0 _).set 1 _).set 2 _).set 3 _).set 4 _).set 5 _, g1.other hb5 rfl (ks6 wi g (.bool (negI (X).num)) (.slice A1 k1 c1) (.slice A2 k2 c2) (.bool (negI (Y).num)) (.slice A3 k3 c3) (.slice A4 k4 c4)), g2.other hb5 rfl (ks6 wi g (.bool (negI (X).num)) (.slice A1 k1 c1) (.slice A2 k2 c2) (.bool (negI (Y).num)) (.slice A3 k3 c3) (.slice A4 k4 c4)), g3.other hb5 rfl (ks6 wi g (.bool (negI (X).num)) (.slice A1 k1 c1) (.slice A2 k2 c2) (.bool (negI (Y).num)) (.slice A3 k3 c3) (.slice A4 k4 c4)), g4.other hb5 rfl (ks6 wi g (.bool (negI (X).num)) (.slice A1 k1 c1) (.slice A2 k2 c2) (.bool (negI (Y).num)) (.slice A3 k3 c3) (.slice A4 k4 c4))⟩))
  ·have r7 := (hρ (.tmp 7)).trans x7; have r25 := (hρ (.tmp 25)).trans x25
   simp [execOp, go_sem, r7, r25, e0, e1, e2, e3, e4, e5, f0, f1, f2, f3, f4, f5]
  ·match j, hj with
   |0, _ => exact fun v_ (h : v_ = (.pointer (some ⟨w.heap.size + 1, 0, none⟩))) => (show v_ = (.pointer (some ⟨w.heap.size + 1, 0, none⟩)) from h)
   |1, _ => exact fun v_ (h : v_ = (.agg #[.int .i64 ax, .int .i64 ay])) => (show v_ = (.agg #[.int .i64 ax, .int .i64 ay]) from h)
   |2, _ => exact fun v_ (h : IsP ((ax : Int) : Rat) ((ay : Int) : Rat) v_ wi) => (show IsP ((ax : Int) : Rat) ((ay : Int) : Rat) v_ _ from IsP.oth hb5 rfl (ks6 wi g (.bool (negI (X).num)) (.slice A1 k1 c1) (.slice A2 k2 c2) (.bool (negI (Y).num)) (.slice A3 k3 c3) (.slice A4 k4 c4)) h)
   |3, _ => exact fun v_ (h : v_ = (.pointer (some ⟨w.heap.size + 1, 2, none⟩))) => (show v_ = (.pointer (some ⟨w.heap.size + 1, 2, none⟩)) from h)
   |4, _ => exact fun v_ (h : v_ = (.agg #[.int .i64 ax', .int .i64 ay'])) => (show v_ = (.agg #[.int .i64 ax', .int .i64 ay']) from h)
   |5, _ => exact fun v_ (h : IsP ((ax' : Int) : Rat) ((ay' : Int) : Rat) v_ wi) => (show IsP ((ax' : Int) : Rat) ((ay' : Int) : Rat) v_ _ from IsP.oth hb5 rfl (ks6 wi g (.bool (negI (X).num)) (.slice A1 k1 c1) (.slice A2 k2 c2) (.bool (negI (Y).num)) (.slice A3 k3 c3) (.slice A4 k4 c4)) h)
   |6, _ => exact fun v_ (h : v_ = (.pointer (some ⟨w.heap.size + 1 + 1, 0, none⟩))) => (show v_ = (.pointer (some ⟨w.heap.size + 1 + 1, 0, none⟩)) from h)
   |7, _ => exact fun v_ (h : v_ = (.agg #[.int .i64 bx, .int .i64 b_y])) => (show v_ = (.agg #[.int .i64 bx, .int .i64 b_y]) from h)
   |8, _ => exact fun v_ (h : IsP ((bx : Int) : Rat) ((b_y : Int) : Rat) v_ wi) => (show IsP ((bx : Int) : Rat) ((b_y : Int) : Rat) v_ _ from IsP.oth hb5 rfl (ks6 wi g (.bool (negI (X).num)) (.slice A1 k1 c1) (.slice A2 k2 c2) (.bool (negI (Y).num)) (.slice A3 k3 c3) (.slice A4 k4 c4)) h)
   |9, _ => exact fun v_ (h : v_ = (.pointer (some ⟨w.heap.size + 1 + 1, 2, none⟩))) => (show v_ = (.pointer (some ⟨w.heap.size + 1 + 1, 2, none⟩)) from h)
   |10, _ => exact fun v_ (h : v_ = (.agg #[.int .i64 bx', .int .i64 b_y'])) => (show v_ = (.agg #[.int .i64 bx', .int .i64 b_y']) from h)
   |11, _ => exact fun v_ (h : IsP ((bx' : Int) : Rat) ((b_y' : Int) : Rat) v_ wi) => (show IsP ((bx' : Int) : Rat) ((b_y' : Int) : Rat) v_ _ from IsP.oth hb5 rfl (ks6 wi g (.bool (negI (X).num)) (.slice A1 k1 c1) (.slice A2 k2 c2) (.bool (negI (Y).num)) (.slice A3 k3 c3) (.slice A4 k4 c4)) h)
   |12, _ => exact fun v_ (h : IsOkP (X) (Y) v_ wi) => (show IsOkP (X) (Y) v_ _ from IsOkP.oth hb5 rfl (ks6 wi g (.bool (negI (X).num)) (.slice A1 k1 c1) (.slice A2 k2 c2) (.bool (negI (Y).num)) (.slice A3 k3 c3) (.slice A4 k4 c4)) h)
   |13, _ => exact fun v_ (h : IsOkP (X) (Y) v_ wi) => (show IsOkP (X) (Y) v_ _ from IsOkP.oth hb5 rfl (ks6 wi g (.bool (negI (X).num)) (.slice A1 k1 c1) (.slice A2 k2 c2) (.bool (negI (Y).num)) (.slice A3 k3 c3) (.slice A4 k4 c4)) h)
   |14, _ => exact fun v_ (h : IsP (X) (Y) v_ wi) => (show IsP (X) (Y) v_ _ from IsP.oth hb5 rfl (ks6 wi g (.bool (negI (X).num)) (.slice A1 k1 c1) (.slice A2 k2 c2) (.bool (negI (Y).num)) (.slice A3 k3 c3) (.slice A4 k4 c4)) h)
   |15, _ => exact fun v_ (h : v_ = (.int .i64 0)) => (show v_ = (.int .i64 0) from h)
   |16, _ => exact absurd rfl hja
   |17, _ => exact absurd rfl hjs
   |n + 18, hn => exact absurd hn (by omega)
 ·match i, hi with
  |0, _ =>
   refine so rfl ?_
   intro fb wi hx hb hd K hK
   have x4 : fb.eval (.tmp 4) = .pointer (some ⟨w.heap.size + 1, 0, none⟩) := hb 4 rfl
   refine sv rfl (v := .pointer (some ⟨w.heap.size + 1, 0, none⟩)) (w' := wi) (fun ρ hρ hc => ?_) (hK _ _ (Ext.refl _) (rfl))
   have r4 := (hρ (.tmp 4)).trans x4
   simp [execOp, go_sem, r4]
  |1, _ =>
   refine so rfl ?_
   intro fb wi hx hb hd K hK
   have x12 : fb.eval (.tmp 12) = .pointer (some ⟨w.heap.size + 1, 0, none⟩) := hd 0 12 rfl (by kernel_rfl)
   have cf0 := (HB2.out.ext hx).cell 0
   have cf1 := (HB2.out.ext hx).cell 1
   simp only [List.getElem?_cons_zero, List.getElem?_cons_succ] at cf0 cf1
   refine sv rfl (v := .agg #[.int .i64 ax, .int .i64 ay]) (w' := wi) (fun ρ hρ hc => ?_) (hK _ _ (Ext.refl _) (rfl))
   have r12 := (hρ (.tmp 12)).trans x12
   simp [execOp, go_sem, r12, cf0, cf1]
  |2, _ =>
   refine so rfl ?_
   intro fb wi hx hb hd K hK
   have x13 : fb.eval (.tmp 13) = .agg #[.int .i64 ax, .int .i64 ay] := hd 1 13 rfl (by kernel_rfl)
   refine sc rfl 85 [.tmp 13] #[49] rfl _ Tryz.func85 rfl (by decide +kernel) [.agg #[.int .i64 ax, .int .i64 ay]] (by simp only [List.map_cons, List.map_nil, x13]) (exactC_any (ax, ay) wi HIA.out) (fun e w' h => rk hK h)
  |3, _ =>
   refine so rfl ?_
   intro fb wi hx hb hd K hK
   have x4 : fb.eval (.tmp 4) = .pointer (some ⟨w.heap.size + 1, 0, none⟩) := hb 4 rfl
   refine sv rfl (v := .pointer (some ⟨w.heap.size + 1, 2, none⟩)) (w' := wi) (fun ρ hρ hc => ?_) (hK _ _ (Ext.refl _) (rfl))
   have r4 := (hρ (.tmp 4)).trans x4
   simp [execOp, go_sem, r4]
  |4, _ =>
   refine so rfl ?_
   intro fb wi hx hb hd K hK
   have x15 : fb.eval (.tmp 15) = .pointer (some ⟨w.heap.size + 1, 2, none⟩) := hd 3 15 rfl (by kernel_rfl)
   have cf0 := (HB2.out.ext hx).cell 2
   have cf1 := (HB2.out.ext hx).cell 3
   simp only [List.getElem?_cons_zero, List.getElem?_cons_succ] at cf0 cf1
   refine sv rfl (v := .agg #[.int .i64 ax', .int .i64 ay']) (w' := wi) (fun ρ hρ hc => ?_) (hK _ _ (Ext.refl _) (rfl))
   have r15 := (hρ (.tmp 15)).trans x15
   simp [execOp, go_sem, r15, cf0, cf1]
  |5, _ =>
   refine so rfl ?_
   intro fb wi hx hb hd K hK
   have x16 : fb.eval (.tmp 16) = .agg #[.int .i64 ax', .int .i64 ay'] := hd 4 16 rfl (by kernel_rfl)
   refine sc rfl 85 [.tmp 16] #[49] rfl _ Tryz.func85 rfl (by decide +kernel) [.agg #[.int .i64 ax', .int .i64 ay']] (by simp only [List.map_cons, List.map_nil, x16]) (exactC_any (ax', ay') wi HIA'.out) (fun e w' h => rk hK h)
  |6, _ =>
   refine so rfl ?_
   intro fb wi hx hb hd K hK
   have x5 : fb.eval (.tmp 5) = .pointer (some ⟨w.heap.size + 1 + 1, 0, none⟩) := hb 5 rfl
   refine sv rfl (v := .pointer (some ⟨w.heap.size + 1 + 1, 0, none⟩)) (w' := wi) (fun ρ hρ hc => ?_) (hK _ _ (Ext.refl _) (rfl))
   have r5 := (hρ (.tmp 5)).trans x5
   simp [execOp, go_sem, r5]
  |7, _ =>
   refine so rfl ?_
   intro fb wi hx hb hd K hK
   have x18 : fb.eval (.tmp 18) = .pointer (some ⟨w.heap.size + 1 + 1, 0, none⟩) := hd 6 18 rfl (by kernel_rfl)
   have cf0 := (HB3.out.ext hx).cell 0
   have cf1 := (HB3.out.ext hx).cell 1
   simp only [List.getElem?_cons_zero, List.getElem?_cons_succ] at cf0 cf1
   refine sv rfl (v := .agg #[.int .i64 bx, .int .i64 b_y]) (w' := wi) (fun ρ hρ hc => ?_) (hK _ _ (Ext.refl _) (rfl))
   have r18 := (hρ (.tmp 18)).trans x18
   simp [execOp, go_sem, r18, cf0, cf1]
  |8, _ =>
   refine so rfl ?_
   intro fb wi hx hb hd K hK
   have x19 : fb.eval (.tmp 19) = .agg #[.int .i64 bx, .int .i64 b_y] := hd 7 19 rfl (by kernel_rfl)
   refine sc rfl 85 [.tmp 19] #[49] rfl _ Tryz.func85 rfl (by decide +kernel) [.agg #[.int .i64 bx, .int .i64 b_y]] (by simp only [List.map_cons, List.map_nil, x19]) (exactC_any (bx, b_y) wi HIB.out) (fun e w' h => rk hK h)
  |9, _ =>
   refine so rfl ?_
   intro fb wi hx hb hd K hK
   have x5 : fb.eval (.tmp 5) = .pointer (some ⟨w.heap.size + 1 + 1, 0, none⟩) := hb 5 rfl
   refine sv rfl (v := .pointer (some ⟨w.heap.size + 1 + 1, 2, none⟩)) (w' := wi) (fun ρ hρ hc => ?_) (hK _ _ (Ext.refl _) (rfl))
   have r5 := (hρ (.tmp 5)).trans x5
   simp [execOp, go_sem, r5]
  |10, _ =>
   refine so rfl ?_
   intro fb wi hx hb hd K hK
   have x21 : fb.eval (.tmp 21) = .pointer (some ⟨w.heap.size + 1 + 1, 2, none⟩) := hd 9 21 rfl (by kernel_rfl)
   have cf0 := (HB3.out.ext hx).cell 2
   have cf1 := (HB3.out.ext hx).cell 3
   simp only [List.getElem?_cons_zero, List.getElem?_cons_succ] at cf0 cf1
   refine sv rfl (v := .agg #[.int .i64 bx', .int .i64 b_y']) (w' := wi) (fun ρ hρ hc => ?_) (hK _ _ (Ext.refl _) (rfl))
   have r21 := (hρ (.tmp 21)).trans x21
   simp [execOp, go_sem, r21, cf0, cf1]
  |11, _ =>
   refine so rfl ?_
   intro fb wi hx hb hd K hK
   have x22 : fb.eval (.tmp 22) = .agg #[.int .i64 bx', .int .i64 b_y'] := hd 10 22 rfl (by kernel_rfl)
   refine sc rfl 85 [.tmp 22] #[49] rfl _ Tryz.func85 rfl (by decide +kernel) [.agg #[.int .i64 bx', .int .i64 b_y']] (by simp only [List.map_cons, List.map_nil, x22]) (exactC_any (bx', b_y') wi HIB'.out) (fun e w' h => rk hK h)
  |12, _ =>
   refine so rfl ?_
   intro fb wi hx hb hd K hK
   have y14 : IsP ((ax : Int) : Rat) ((ay : Int) : Rat) (fb.eval (.tmp 14)) wi := hd 2 14 rfl (by kernel_rfl)
   have y17 : IsP ((ax' : Int) : Rat) ((ay' : Int) : Rat) (fb.eval (.tmp 17)) wi := hd 5 17 rfl (by kernel_rfl)
   have y20 : IsP ((bx : Int) : Rat) ((b_y : Int) : Rat) (fb.eval (.tmp 20)) wi := hd 8 20 rfl (by kernel_rfl)
   have y23 : IsP ((bx' : Int) : Rat) ((b_y' : Int) : Rat) (fb.eval (.tmp 23)) wi := hd 11 23 rfl (by kernel_rfl)
   refine sc rfl 84 [.tmp 14, .tmp 17, .tmp 20, .tmp 23] #[155, 155, 155, 155] rfl _ Tryz.func84 rfl (by decide +kernel) [fb.eval (.tmp 14), fb.eval (.tmp 17), fb.eval (.tmp 20), fb.eval (.tmp 23)] rfl (by have h := pmeet_any (ax, ay) (ax', ay') (bx, b_y) (bx', b_y') _ _ _ _ wi y14 y17 y20 y23 HIA.out HIA'.out HIB.out HIB'.out HB.out; rw [HXE.out, HYE.out] at h; exact h) (fun e w' h => rk hK h)
  |13, _ =>
   refine so rfl ?_
   intro fb wi hx hb hd K hK
   have y24 : IsOkP (X) (Y) (fb.eval (.tmp 24)) wi := hd 12 24 rfl (by kernel_rfl)
   refine sv rfl (v := fb.eval (.tmp 24)) (w' := wi) (fun ρ hρ hc => ?_) (hK _ _ (Ext.refl _) y24)
   simp [execOp, go_sem, hρ (.tmp 24)]
  |14, _ =>
   refine so rfl ?_
   intro fb wi hx hb hd K hK
   have y11 : IsOkP (X) (Y) (fb.eval (.tmp 11)) wi := hd 13 11 rfl (by kernel_rfl)
   obtain ⟨u11, x11, g11⟩ := y11
   refine sv rfl (v := u11) (w' := wi) (fun ρ hρ hc => ?_) (hK _ _ (Ext.refl _) (g11))
   have r11 := (hρ (.tmp 11)).trans x11
   simp [execOp, go_sem, r11]
  |15, _ =>
   refine so rfl ?_
   intro fb wi hx hb hd K hK
   have y11 : IsOkP (X) (Y) (fb.eval (.tmp 11)) wi := hd 13 11 rfl (by kernel_rfl)
   obtain ⟨u11, x11, g11⟩ := y11
   refine sv rfl (v := .int .i64 0) (w' := wi) (fun ρ hρ hc => ?_) (hK _ _ (Ext.refl _) (rfl))
   have r11 := (hρ (.tmp 11)).trans x11
   simp [execOp, go_sem, r11]
  |16, _ =>
   refine so rfl ?_
   intro fb wi hx hb hd K hK
   refine sv rfl (v := .pointer (some ⟨wi.heap.size, 0, none⟩)) (w' := wi.alloc (.cells #[.bool false, .slice none 0 0, .slice none 0 0, .bool false, .slice none 0 0, .slice none 0 0] 155)) (fun ρ hρ hc => ?_) (hK _ _ ((Ext.refl _).alloc _) (⟨wi.heap.size, rfl, hx.size, Blk.new' rfl⟩))
   simp [execOp, go_sem]
  |17, _ =>
   exact absurd rfl his
  |n + 18, hn => exact absurd hn (by omega)
 ·skip
  have t7 : (StP W0.heap.size (X) (Y)) (xs 16) w1 := hT 16 (by decide) (by decide)
  have t26 : Fx (.int .i64 0) (xs 15) w1 := hT 15 (by decide) (by decide)
  simp only [frOf, putAll, List.drop_succ_cons, List.drop_zero, List.setIfInBounds_toArray, List.set_cons_succ, List.set_cons_zero, Nat.zero_add, Nat.reduceAdd]
  obtain ⟨g5, u1, u2, u3, u4, q7, hg5, hb5, z1, z2, z3, z4⟩ := t7
  obtain ⟨A9, k9, c9, rfl⟩ := z1.form
  obtain ⟨A10, k10, c10, rfl⟩ := z2.form
  obtain ⟨A11, k11, c11, rfl⟩ := z3.form
  obtain ⟨A12, k12, c12, rfl⟩ := z4.form
  have q26 : xs 15 = .int .i64 0 := t26
  rw [q7, q26]
  have HX9 := Lib.hid (HX0.out.trans hx)
  have HC1 := Lib.hid (HB1.out.ext hx); have HC2 := Lib.hid (HB2.out.ext hx); have HC3 := Lib.hid (HB3.out.ext hx)
  have HQ5 := Lib.hid hb5
  have HPP : Hid (IsP (X) (Y) (.agg #[.bool (negI (X).num), .slice A9 k9 c9, .slice A10 k10 c10, .bool (negI (Y).num), .slice A11 k11 c11, .slice A12 k12 c12]) w1) := ⟨_, _, _, _, rfl, z1, z2, z3, z4⟩
  clear hT t26 q26 q7 z1 z2 z3 z4 hg5 hb5 hx HX0 HB1 HB2 HB3
  obtain ⟨s9, hs⟩ : ∃ b_, b_ = negI (X).num := ⟨_, rfl⟩
  rw [← hs] at HQ5 HPP
  clear hs
  obtain ⟨s10, hs⟩ : ∃ b_, b_ = negI (Y).num := ⟨_, rfl⟩
  rw [← hs] at HQ5 HPP
  clear hs
  obtain ⟨⟨gx, gy⟩, hgv⟩ : ∃ s : Spot, gridV (rndZ (X - ((vx : Int) : Rat))) (rndZ (Y - ((vy : Int) : Rat))) = s := ⟨_, rfl⟩
  obtain ⟨ge, hge⟩ : ∃ z, gridE (rndZ (X - ((vx : Int) : Rat))) (rndZ (Y - ((vy : Int) : Rat))) = z := ⟨_, rfl⟩
  have HGV := Lib.hid hgv; have HGE := Lib.hid hge
  clear hgv hge
  go_upto_region 3 with fail
  refine wp_at fun W3 hW3 => ?_
  have HX0 : Hid (Ext w W3) := by show Ext _ _; rw [hW3]; exact HX9.out
  have HB1 : Hid (Blk 49 W3 (w.heap.size) [.int .i64 vx, .int .i64 vy]) := by show Blk _ _ _ _; rw [hW3]; exact HC1.out
  have HB2 : Hid (Blk 120 W3 (w.heap.size + 1) [.int .i64 ax, .int .i64 ay, .int .i64 ax', .int .i64 ay', .int .i64 aw]) := by show Blk _ _ _ _; rw [hW3]; exact HC2.out
  have HB3 : Hid (Blk 120 W3 (w.heap.size + 1 + 1) [.int .i64 bx, .int .i64 b_y, .int .i64 bx', .int .i64 b_y', .int .i64 bw]) := by show Blk _ _ _ _; rw [hW3]; exact HC3.out
  have HB5 : Hid (Blk 155 W3 g5 [.bool s9, .slice A9 k9 c9, .slice A10 k10 c10, .bool s10, .slice A11 k11 c11, .slice A12 k12 c12]) := by show Blk _ _ _ _; rw [hW3]; exact HQ5.out
  have HP5 : Hid (IsP (X) (Y) (.agg #[.bool s9, .slice A9 k9 c9, .slice A10 k10 c10, .bool s10, .slice A11 k11 c11, .slice A12 k12 c12]) W3) := by show IsP _ _ _ _; rw [hW3]; exact HPP.out
  clear hW3 HX9 HC1 HC2 HC3 HQ5 HPP
  refine region_slotsP (l := 10) (m := 1) (N := 59) (ai := 8) (si := 9) (da := 9) (W0 := W3) [30, 31, 32, 33, 34, 29, 35, 36, 9, 1059] [IsP (X) (Y), Fx (.agg #[.int .i64 vx, .int .i64 vy]), IsP ((vx : Int) : Rat) ((vy : Int) : Rat), IsP (X - ((vx : Int) : Rat)) (Y - ((vy : Int) : Rat)), Fx (.tuple #[.agg #[.int .i64 gx, .int .i64 gy], .int .i64 ge]), Fx (.tuple #[.agg #[.int .i64 gx, .int .i64 gy], .int .i64 ge]), Fx (.agg #[.int .i64 gx, .int .i64 gy]), Fx (.int .i64 ge), IsNew 49 W3.heap.size [.int .i64 0, .int .i64 0], Any] (IsNew 49 W3.heap.size [.int .i64 gx, .int .i64 gy]) (by kernel_rfl) (by omega) (by kernel_rfl) (by kernel_rfl) (Ext.refl _) ?kp (IsNew.kp _ _ _) (fun i hi his => ?_) ?st (fun xs w1 hx hT => ?_)
  case kp => exact ⟨IsP.kp _ _, Fx.kp _, IsP.kp _ _, IsP.kp _ _, Fx.kp _, Fx.kp _, Fx.kp _, Fx.kp _, IsNew.kp _ _ _, Any.kp, trivial⟩
  case st =>
   refine so rfl ?_
   intro fb wi hx hb hd K hK
   have y9 : IsNew 49 W3.heap.size [.int .i64 0, .int .i64 0] (fb.eval (.tmp 9)) wi := hd 8 9 rfl (by kernel_rfl)
   have x35 : fb.eval (.tmp 35) = .agg #[.int .i64 gx, .int .i64 gy] := hd 6 35 rfl (by kernel_rfl)
   obtain ⟨g, x9, hg, hb5⟩ := y9
   have e0 := hb5.cell 0; have e1 := hb5.cell 1
   simp only [List.getElem?_cons_zero, List.getElem?_cons_succ] at e0 e1
   have f0 := hb5.frozen 0; have f1 := hb5.frozen 1
   refine step_skipR (wanted_all rfl) (w' := (wi.setCell ⟨g, 0, none⟩ (.int .i64 gx)).setCell ⟨g, 1, none⟩ (.int .i64 gy)) (fun ρ hρ hc => ?_) (hK _ (kext hx hg (ks2 wi g (.int .i64 gx) (.int .i64 gy))) (fun j hj hja hjs => ?_) (⟨g, x9, hg, (hb5.set 0 _).set 1 _⟩))
   ·have r9 := (hρ (.tmp 9)).trans x9; have r35 := (hρ (.tmp 35)).trans x35
    simp [execOp, go_sem, r9, r35, e0, e1, f0, f1]
   ·match j, hj with
    |0, _ => exact fun v_ (h : IsP (X) (Y) v_ wi) => (show IsP (X) (Y) v_ _ from IsP.oth hb5 rfl (ks2 wi g (.int .i64 gx) (.int .i64 gy)) h)
    |1, _ => exact fun v_ (h : v_ = (.agg #[.int .i64 vx, .int .i64 vy])) => (show v_ = (.agg #[.int .i64 vx, .int .i64 vy]) from h)
    |2, _ => exact fun v_ (h : IsP ((vx : Int) : Rat) ((vy : Int) : Rat) v_ wi) => (show IsP ((vx : Int) : Rat) ((vy : Int) : Rat) v_ _ from IsP.oth hb5 rfl (ks2 wi g (.int .i64 gx) (.int .i64 gy)) h)
    |3, _ => exact fun v_ (h : IsP (X - ((vx : Int) : Rat)) (Y - ((vy : Int) : Rat)) v_ wi) => (show IsP (X - ((vx : Int) : Rat)) (Y - ((vy : Int) : Rat)) v_ _ from IsP.oth hb5 rfl (ks2 wi g (.int .i64 gx) (.int .i64 gy)) h)
    |4, _ => exact fun v_ (h : v_ = (.tuple #[.agg #[.int .i64 gx, .int .i64 gy], .int .i64 ge])) => (show v_ = (.tuple #[.agg #[.int .i64 gx, .int .i64 gy], .int .i64 ge]) from h)
    |5, _ => exact fun v_ (h : v_ = (.tuple #[.agg #[.int .i64 gx, .int .i64 gy], .int .i64 ge])) => (show v_ = (.tuple #[.agg #[.int .i64 gx, .int .i64 gy], .int .i64 ge]) from h)
    |6, _ => exact fun v_ (h : v_ = (.agg #[.int .i64 gx, .int .i64 gy])) => (show v_ = (.agg #[.int .i64 gx, .int .i64 gy]) from h)
    |7, _ => exact fun v_ (h : v_ = (.int .i64 ge)) => (show v_ = (.int .i64 ge) from h)
    |8, _ => exact absurd rfl hja
    |9, _ => exact absurd rfl hjs
    |n + 10, hn => exact absurd hn (by omega)
  ·match i, hi with
   |0, _ =>
    refine so rfl ?_
    intro fb wi hx hb hd K hK
    have x7 : fb.eval (.tmp 7) = .pointer (some ⟨g5, 0, none⟩) := hb 7 rfl
    have cf0 := (HB5.out.ext hx).cell 0
    have cf1 := (HB5.out.ext hx).cell 1
    have cf2 := (HB5.out.ext hx).cell 2
    have cf3 := (HB5.out.ext hx).cell 3
    have cf4 := (HB5.out.ext hx).cell 4
    have cf5 := (HB5.out.ext hx).cell 5
    simp only [List.getElem?_cons_zero, List.getElem?_cons_succ] at cf0 cf1 cf2 cf3 cf4 cf5
    refine sv rfl (v := .agg #[.bool s9, .slice A9 k9 c9, .slice A10 k10 c10, .bool s10, .slice A11 k11 c11, .slice A12 k12 c12]) (w' := wi) (fun ρ hρ hc => ?_) (hK _ _ (Ext.refl _) (HP5.out.ext hx))
    have r7 := (hρ (.tmp 7)).trans x7
    simp [execOp, go_sem, r7, cf0, cf1, cf2, cf3, cf4, cf5]
   |1, _ =>
    refine so rfl ?_
    intro fb wi hx hb hd K hK
    have x3 : fb.eval (.tmp 3) = .pointer (some ⟨w.heap.size, 0, none⟩) := hb 3 rfl
    have cf0 := (HB1.out.ext hx).cell 0
    have cf1 := (HB1.out.ext hx).cell 1
    simp only [List.getElem?_cons_zero, List.getElem?_cons_succ] at cf0 cf1
    refine sv rfl (v := .agg #[.int .i64 vx, .int .i64 vy]) (w' := wi) (fun ρ hρ hc => ?_) (hK _ _ (Ext.refl _) (rfl))
    have r3 := (hρ (.tmp 3)).trans x3
    simp [execOp, go_sem, r3, cf0, cf1]
   |2, _ =>
    refine so rfl ?_
    intro fb wi hx hb hd K hK
    have x31 : fb.eval (.tmp 31) = .agg #[.int .i64 vx, .int .i64 vy] := hd 1 31 rfl (by kernel_rfl)
    refine sc rfl 85 [.tmp 31] #[49] rfl _ Tryz.func85 rfl (by decide +kernel) [.agg #[.int .i64 vx, .int .i64 vy]] (by simp only [List.map_cons, List.map_nil, x31]) (exactC_any (vx, vy) wi HIV.out) (fun e w' h => rk hK h)
   |3, _ =>
    refine so rfl ?_
    intro fb wi hx hb hd K hK
    have y30 : IsP (X) (Y) (fb.eval (.tmp 30)) wi := hd 0 30 rfl (by kernel_rfl)
    have y32 : IsP ((vx : Int) : Rat) ((vy : Int) : Rat) (fb.eval (.tmp 32)) wi := hd 2 32 rfl (by kernel_rfl)
    refine sc rfl 87 [.tmp 30, .tmp 32] #[155, 155] rfl _ Tryz.func87 rfl (by decide +kernel) [fb.eval (.tmp 30), fb.eval (.tmp 32)] rfl (by have h := psubV_any (ax, ay) (ax', ay') (bx, b_y) (bx', b_y') (vx, vy) _ _ wi (by rw [HXE.out, HYE.out]; exact y30) y32 HIA.out HIA'.out HIB.out HIB'.out HIV.out HB.out; rw [HXE.out, HYE.out] at h; exact h) (fun e w' h => rk hK h)
   |4, _ =>
    refine so rfl ?_
    intro fb wi hx hb hd K hK
    have y33 : IsP (X - ((vx : Int) : Rat)) (Y - ((vy : Int) : Rat)) (fb.eval (.tmp 33)) wi := hd 3 33 rfl (by kernel_rfl)
    refine sc rfl 86 [.tmp 33] #[155] rfl _ Tryz.func86 rfl (by decide +kernel) [fb.eval (.tmp 33)] rfl (by have h := retFx (gridC_any (ax, ay) (ax', ay') (bx, b_y) (bx', b_y') (vx, vy) _ wi (by rw [HXE.out, HYE.out]; exact y33) HIA.out HIA'.out HIB.out HIB'.out HIV.out HB.out); rw [HXE.out, HYE.out, HGV.out, HGE.out] at h; exact h) (fun e w' h => rk hK h)
   |5, _ =>
    refine so rfl ?_
    intro fb wi hx hb hd K hK
    have y34 : Fx (.tuple #[.agg #[.int .i64 gx, .int .i64 gy], .int .i64 ge]) (fb.eval (.tmp 34)) wi := hd 4 34 rfl (by kernel_rfl)
    refine sv rfl (v := fb.eval (.tmp 34)) (w' := wi) (fun ρ hρ hc => ?_) (hK _ _ (Ext.refl _) y34)
    simp [execOp, go_sem, hρ (.tmp 34)]
   |6, _ =>
    refine so rfl ?_
    intro fb wi hx hb hd K hK
    have y29 : Fx (.tuple #[.agg #[.int .i64 gx, .int .i64 gy], .int .i64 ge]) (fb.eval (.tmp 29)) wi := hd 5 29 rfl (by kernel_rfl)
    have x29 : fb.eval (.tmp 29) = .tuple #[.agg #[.int .i64 gx, .int .i64 gy], .int .i64 ge] := y29
    refine sv rfl (v := .agg #[.int .i64 gx, .int .i64 gy]) (w' := wi) (fun ρ hρ hc => ?_) (hK _ _ (Ext.refl _) (rfl))
    have r29 := (hρ (.tmp 29)).trans x29
    simp [execOp, go_sem, r29]
   |7, _ =>
    refine so rfl ?_
    intro fb wi hx hb hd K hK
    have y29 : Fx (.tuple #[.agg #[.int .i64 gx, .int .i64 gy], .int .i64 ge]) (fb.eval (.tmp 29)) wi := hd 5 29 rfl (by kernel_rfl)
    have x29 : fb.eval (.tmp 29) = .tuple #[.agg #[.int .i64 gx, .int .i64 gy], .int .i64 ge] := y29
    refine sv rfl (v := .int .i64 ge) (w' := wi) (fun ρ hρ hc => ?_) (hK _ _ (Ext.refl _) (rfl))
    have r29 := (hρ (.tmp 29)).trans x29
    simp [execOp, go_sem, r29]
   |8, _ =>
    refine so rfl ?_
    intro fb wi hx hb hd K hK
    refine sv rfl (v := .pointer (some ⟨wi.heap.size, 0, none⟩)) (w' := wi.alloc (.cells #[.int .i64 0, .int .i64 0] 49)) (fun ρ hρ hc => ?_) (hK _ _ ((Ext.refl _).alloc _) (⟨wi.heap.size, rfl, hx.size, Blk.new' rfl⟩))
    simp [execOp, go_sem]
   |9, _ =>
    exact absurd rfl his
   |n + 10, hn => exact absurd hn (by omega)
  ·skip
   have t9 : (IsNew 49 W3.heap.size [.int .i64 gx, .int .i64 gy]) (xs 8) w1 := hT 8 (by decide) (by decide)
   have t36 : Fx (.int .i64 ge) (xs 7) w1 := hT 7 (by decide) (by decide)
   simp only [frOf, putAll, List.drop_succ_cons, List.drop_zero, List.setIfInBounds_toArray, List.set_cons_succ, List.set_cons_zero, Nat.zero_add, Nat.reduceAdd]
   obtain ⟨g9, q9, hg9, hb9⟩ := t9
   have q36 : xs 7 = .int .i64 ge := t36
   rw [q9, q36]
   have HX9 := Lib.hid (HX0.out.trans hx)
   have HC1 := Lib.hid (HB1.out.ext hx); have HC2 := Lib.hid (HB2.out.ext hx); have HC3 := Lib.hid (HB3.out.ext hx)
   have HQ9 := Lib.hid hb9
   clear hT t36 q36 q9 hg9 hb9 hx HX0 HB1 HB2 HB3 HB5 HP5
   have v0 := HC1.out.cell 0; have v1 := HC1.out.cell 1
   have a2 := HC2.out.cell 2; have a3 := HC2.out.cell 3; have a4 := HC2.out.cell 4
   have d0 := HC3.out.cell 0; have d1 := HC3.out.cell 1; have d4 := HC3.out.cell 4
   have e0 := HQ9.out.cell 0; have e1 := HQ9.out.cell 1
   simp only [List.getElem?_cons_zero, List.getElem?_cons_succ] at v0 v1 a2 a3 a4 d0 d1 d4 e0 e1
   have hab := HWA.out; have hbb := HWB.out
   obtain ⟨hab1, hab2⟩ := hab; obtain ⟨hbb1, hbb2⟩ := hbb
   obtain ⟨bM, hbM⟩ : ∃ b, inSB (gx, gy) (4 * max aw bw + 4) = b := ⟨_, rfl⟩
   have HBM := Lib.hid hbM
   clear hbM
   have HL1 : Hid (ge = 0 → bM = true → cornerL vx vy ax ay ax' ay' bx b_y bx' b_y' aw bw = [addS (vx, vy) (gx, gy)]) := fun h1 h2 => by
    unfold cornerL
    rw [HXE.out, HYE.out, HGV.out, HGE.out, if_pos ⟨h1, HBM.out.trans h2⟩]
   have HL2 : Hid (¬ (ge = 0 ∧ bM = true) → cornerL vx vy ax ay ax' ay' bx b_y bx' b_y' aw bw = [(ax', ay'), (bx, b_y)]) := fun h => by
    unfold cornerL
    rw [HXE.out, HYE.out, HGV.out, HGE.out, if_neg (fun hc => h ⟨hc.1, HBM.out.symm.trans hc.2⟩)]
   by_cases hz : ge = 0
   ·rw [hz]
    have HZ := Lib.hid hz
    clear hz
    have HC1' := HC1; have HX1 := HX9
    go_wp2_with fail
    all_goals
     refine (withinS_any (gx, gy) _ _ (by omega) (by omega)).mono ?_
     rintro e w2 ⟨rfl, he2⟩
     first
      |rw [show inSB (gx, gy) (4 * aw + 4) = bM from by rw [← HBM.out]; congr 1; omega]
      |rw [show inSB (gx, gy) (4 * bw + 4) = bM from by rw [← HBM.out]; congr 1; omega]
     have HE2 := Lib.hid he2
     have v0' := he2.cell v0; have v1' := he2.cell v1; have e0' := he2.cell e0; have e1' := he2.cell e1
     have a2' := he2.cell a2; have a3' := he2.cell a3; have d0' := he2.cell d0; have d1' := he2.cell d1
     clear v0 v1 e0 e1 a2 a3 a4 d0 d1 d4 he2
     cases bM
     ·have HE := Lib.hid (HL2.out (fun h => by cases h.2))
      go_wp2_with fail
      go_ret
      rw [HE.out]
      exact ⟨_, rfl, BlkS.own (L := [(ax', ay'), (bx, b_y)]) (BlkS.new _ [(ax', ay'), (bx, b_y)]) (HX9.out.trans HE2.out).size (by simp), (HX9.out.trans HE2.out).alloc _⟩
     ·have HE := Lib.hid (HL1.out HZ.out rfl)
      go_wp2_with fail
      refine (sum_any (vx, vy) (gx, gy) _).mono ?_
      rintro e w3 ⟨rfl, he3⟩
      obtain ⟨⟨sx, sy⟩, hs⟩ : ∃ s, addS (vx, vy) (gx, gy) = s := ⟨_, rfl⟩
      rw [hs] at HE ⊢
      clear hs
      have HE3 := Lib.hid he3
      clear he3
      go_wp2_with fail
      go_ret
      rw [HE.out]
      exact ⟨_, rfl, BlkS.own (L := [(sx, sy)]) (BlkS.new _ [(sx, sy)]) ((HX9.out.trans HE2.out).trans HE3.out).size (by simp), ((HX9.out.trans HE2.out).trans HE3.out).alloc _⟩
   ·have HE := Lib.hid (HL2.out (fun h => hz h.1))
    go_wp2_with fail
    go_ret
    rw [HE.out]
    exact ⟨_, rfl, BlkS.own (L := [(ax', ay'), (bx, b_y)]) (BlkS.new _ [(ax', ay'), (bx, b_y)]) HX9.out.size (by simp), HX9.out.alloc _⟩
set_option maxRecDepth 100000 in
set_option maxHeartbeats 6400000 in
theorem corner0_any (vx vy ax ay ax' ay' bx b_y bx' b_y' aw bw : Int) (w : World) (iv : inC (vx, vy)) (ia : inC (ax, ay)) (ia' : inC (ax', ay')) (ib : inC (bx, b_y)) (ib' : inC (bx', b_y')) (hwa : 0 ≤ aw ∧ aw ≤ 500) (hwb : 0 ≤ bw ∧ bw ≤ 500) (hB : ptB (ax, ay) (ax', ay') (bx, b_y) (bx', b_y') = 0) :
  Calls Tryz.prog 59 #[SV (vx, vy), .agg #[.int .i64 ax, .int .i64 ay, .int .i64 ax', .int .i64 ay', .int .i64 aw], .agg #[.int .i64 bx, .int .i64 b_y, .int .i64 bx', .int .i64 b_y', .int .i64 bw]] w (RetS w [(ax', ay'), (bx, b_y)]) := by
 have HB := Lib.hid hB; have HIV := Lib.hid iv; have HIA := Lib.hid ia; have HIA' := Lib.hid ia'; have HIB := Lib.hid ib; have HIB' := Lib.hid ib'
 have HWA := Lib.hid hwa; have HWB := Lib.hid hwb
 clear hB iv ia ia' ib ib' hwa hwb
 simp only [SV]
 obtain ⟨X, hX⟩ : ∃ X, ptX (ax, ay) (ax', ay') (bx, b_y) (bx', b_y') = X := ⟨_, rfl⟩
 obtain ⟨Y, hY⟩ : ∃ Y, ptY (ax, ay) (ax', ay') (bx, b_y) (bx', b_y') = Y := ⟨_, rfl⟩
 have HXE := Lib.hid hX; have HYE := Lib.hid hY
 clear hX hY
 go_enter Tryz.func59, Tryz.ntmps59
 go_upto_region 1 with fail
 refine wp_at fun W0 hW0 => ?_
 have HX0 : Hid (Ext w W0) := by show Ext _ _; rw [hW0]; exact (((Ext.refl _).alloc _).alloc _).alloc _
 have HB1 : Hid (Blk 49 W0 (w.heap.size) [.int .i64 vx, .int .i64 vy]) := by show Blk _ _ _ _; rw [hW0]; exact ((Blk.new' rfl).ext ((Ext.refl _).alloc _)).ext ((Ext.refl _).alloc _)
 have HB2 : Hid (Blk 120 W0 (w.heap.size + 1) [.int .i64 ax, .int .i64 ay, .int .i64 ax', .int .i64 ay', .int .i64 aw]) := by show Blk _ _ _ _; rw [hW0]; exact (Blk.new' (by simp)).ext ((Ext.refl _).alloc _)
 have HB3 : Hid (Blk 120 W0 (w.heap.size + 1 + 1) [.int .i64 bx, .int .i64 b_y, .int .i64 bx', .int .i64 b_y', .int .i64 bw]) := by show Blk _ _ _ _; rw [hW0]; exact Blk.new' (by simp)
 clear hW0
 refine region_slotsP (l := 18) (m := 1) (N := 59) (ai := 16) (si := 17) (da := 7) (W0 := W0) [12, 13, 14, 15, 16, 17, 18, 19, 20, 21, 22, 23, 24, 11, 25, 26, 7, 1059] [Fx (.pointer (some ⟨w.heap.size + 1, 0, none⟩)), Fx (.agg #[.int .i64 ax, .int .i64 ay]), IsP ((ax : Int) : Rat) ((ay : Int) : Rat), Fx (.pointer (some ⟨w.heap.size + 1, 2, none⟩)), Fx (.agg #[.int .i64 ax', .int .i64 ay']), IsP ((ax' : Int) : Rat) ((ay' : Int) : Rat), Fx (.pointer (some ⟨w.heap.size + 1 + 1, 0, none⟩)), Fx (.agg #[.int .i64 bx, .int .i64 b_y]), IsP ((bx : Int) : Rat) ((b_y : Int) : Rat), Fx (.pointer (some ⟨w.heap.size + 1 + 1, 2, none⟩)), Fx (.agg #[.int .i64 bx', .int .i64 b_y']), IsP ((bx' : Int) : Rat) ((b_y' : Int) : Rat), Fx (.tuple #[.agg #[.bool false, .slice none 0 0, .slice none 0 0, .bool false, .slice none 0 0, .slice none 0 0], .int .i64 10]), Fx (.tuple #[.agg #[.bool false, .slice none 0 0, .slice none 0 0, .bool false, .slice none 0 0, .slice none 0 0], .int .i64 10]), Fx (.agg #[.bool false, .slice none 0 0, .slice none 0 0, .bool false, .slice none 0 0, .slice none 0 0]), Fx (.int .i64 10), IsNew 155 W0.heap.size [.bool false, .slice none 0 0, .slice none 0 0, .bool false, .slice none 0 0, .slice none 0 0], Any] (IsNew 155 W0.heap.size [.bool false, .slice none 0 0, .slice none 0 0, .bool false, .slice none 0 0, .slice none 0 0]) (by kernel_rfl) (by omega) (by kernel_rfl) (by kernel_rfl) (Ext.refl _) ?kp (IsNew.kp _ _ _) (fun i hi his => ?_) ?st (fun xs w1 hx hT => ?_)
 case kp => exact ⟨Fx.kp _, Fx.kp _, IsP.kp _ _, Fx.kp _, Fx.kp _, IsP.kp _ _, Fx.kp _, Fx.kp _, IsP.kp _ _, Fx.kp _, Fx.kp _, IsP.kp _ _, Fx.kp _, Fx.kp _, Fx.kp _, Fx.kp _, IsNew.kp _ _ _, Any.kp, trivial⟩
 case st =>
  refine so rfl ?_
  intro fb wi hx hb hd K hK
  have y7 : IsNew 155 W0.heap.size [.bool false, .slice none 0 0, .slice none 0 0, .bool false, .slice none 0 0, .slice none 0 0] (fb.eval (.tmp 7)) wi := hd 16 7 rfl (by kernel_rfl)
  have x25 : fb.eval (.tmp 25) = .agg #[.bool false, .slice none 0 0, .slice none 0 0, .bool false, .slice none 0 0, .slice none 0 0] := hd 14 25 rfl (by kernel_rfl)
  obtain ⟨g, x7, hg, hb5⟩ := y7
  obtain ⟨e0, e1, e2, e3, e4, e5⟩ := blk6c hb5
  obtain ⟨f0, f1, f2, f3, f4, f5⟩ := blk6f hb5
  refine step_skipR (wanted_all rfl) (w' := ((((((wi).setCell ⟨g, 0, none⟩ (.bool false)).setCell ⟨g, 1, none⟩ (.slice none 0 0)).setCell ⟨g, 2, none⟩ (.slice none 0 0)).setCell ⟨g, 3, none⟩ (.bool false)).setCell ⟨g, 4, none⟩ (.slice none 0 0)).setCell ⟨g, 5, none⟩ (.slice none 0 0)) (fun ρ hρ hc => ?_) (hK _ (kext hx hg (ks6 wi g (.bool false) (.slice none 0 0) (.slice none 0 0) (.bool false) (.slice none 0 0) (.slice none 0 0))) (fun j hj hja hjs => ?_) (⟨g, x7, hg, (((((hb5.set 0 _).set 1 _).set 2 _).set 3 _).set 4 _).set 5 _⟩))
  ·have r7 := (hρ (.tmp 7)).trans x7; have r25 := (hρ (.tmp 25)).trans x25
   simp [execOp, go_sem, r7, r25, e0, e1, e2, e3, e4, e5, f0, f1, f2, f3, f4, f5]
  ·match j, hj with
   |0, _ => exact fun v_ (h : v_ = (.pointer (some ⟨w.heap.size + 1, 0, none⟩))) => (show v_ = (.pointer (some ⟨w.heap.size + 1, 0, none⟩)) from h)
   |1, _ => exact fun v_ (h : v_ = (.agg #[.int .i64 ax, .int .i64 ay])) => (show v_ = (.agg #[.int .i64 ax, .int .i64 ay]) from h)
   |2, _ => exact fun v_ (h : IsP ((ax : Int) : Rat) ((ay : Int) : Rat) v_ wi) => (show IsP ((ax : Int) : Rat) ((ay : Int) : Rat) v_ _ from IsP.oth hb5 rfl (ks6 wi g (.bool false) (.slice none 0 0) (.slice none 0 0) (.bool false) (.slice none 0 0) (.slice none 0 0)) h)
   |3, _ => exact fun v_ (h : v_ = (.pointer (some ⟨w.heap.size + 1, 2, none⟩))) => (show v_ = (.pointer (some ⟨w.heap.size + 1, 2, none⟩)) from h)
   |4, _ => exact fun v_ (h : v_ = (.agg #[.int .i64 ax', .int .i64 ay'])) => (show v_ = (.agg #[.int .i64 ax', .int .i64 ay']) from h)
   |5, _ => exact fun v_ (h : IsP ((ax' : Int) : Rat) ((ay' : Int) : Rat) v_ wi) => (show IsP ((ax' : Int) : Rat) ((ay' : Int) : Rat) v_ _ from IsP.oth hb5 rfl (ks6 wi g (.bool false) (.slice none 0 0) (.slice none 0 0) (.bool false) (.slice none 0 0) (.slice none 0 0)) h)
   |6, _ => exact fun v_ (h : v_ = (.pointer (some ⟨w.heap.size + 1 + 1, 0, none⟩))) => (show v_ = (.pointer (some ⟨w.heap.size + 1 + 1, 0, none⟩)) from h)
   |7, _ => exact fun v_ (h : v_ = (.agg #[.int .i64 bx, .int .i64 b_y])) => (show v_ = (.agg #[.int .i64 bx, .int .i64 b_y]) from h)
   |8, _ => exact fun v_ (h : IsP ((bx : Int) : Rat) ((b_y : Int) : Rat) v_ wi) => (show IsP ((bx : Int) : Rat) ((b_y : Int) : Rat) v_ _ from IsP.oth hb5 rfl (ks6 wi g (.bool false) (.slice none 0 0) (.slice none 0 0) (.bool false) (.slice none 0 0) (.slice none 0 0)) h)
   |9, _ => exact fun v_ (h : v_ = (.pointer (some ⟨w.heap.size + 1 + 1, 2, none⟩))) => (show v_ = (.pointer (some ⟨w.heap.size + 1 + 1, 2, none⟩)) from h)
   |10, _ => exact fun v_ (h : v_ = (.agg #[.int .i64 bx', .int .i64 b_y'])) => (show v_ = (.agg #[.int .i64 bx', .int .i64 b_y']) from h)
   |11, _ => exact fun v_ (h : IsP ((bx' : Int) : Rat) ((b_y' : Int) : Rat) v_ wi) => (show IsP ((bx' : Int) : Rat) ((b_y' : Int) : Rat) v_ _ from IsP.oth hb5 rfl (ks6 wi g (.bool false) (.slice none 0 0) (.slice none 0 0) (.bool false) (.slice none 0 0) (.slice none 0 0)) h)
   |12, _ => exact fun v_ (h : v_ = (.tuple #[.agg #[.bool false, .slice none 0 0, .slice none 0 0, .bool false, .slice none 0 0, .slice none 0 0], .int .i64 10])) => (show v_ = (.tuple #[.agg #[.bool false, .slice none 0 0, .slice none 0 0, .bool false, .slice none 0 0, .slice none 0 0], .int .i64 10]) from h)
   |13, _ => exact fun v_ (h : v_ = (.tuple #[.agg #[.bool false, .slice none 0 0, .slice none 0 0, .bool false, .slice none 0 0, .slice none 0 0], .int .i64 10])) => (show v_ = (.tuple #[.agg #[.bool false, .slice none 0 0, .slice none 0 0, .bool false, .slice none 0 0, .slice none 0 0], .int .i64 10]) from h)
   |14, _ => exact fun v_ (h : v_ = (.agg #[.bool false, .slice none 0 0, .slice none 0 0, .bool false, .slice none 0 0, .slice none 0 0])) => (show v_ = (.agg #[.bool false, .slice none 0 0, .slice none 0 0, .bool false, .slice none 0 0, .slice none 0 0]) from h)
   |15, _ => exact fun v_ (h : v_ = (.int .i64 10)) => (show v_ = (.int .i64 10) from h)
   |16, _ => exact absurd rfl hja
   |17, _ => exact absurd rfl hjs
   |n + 18, hn => exact absurd hn (by omega)
 ·match i, hi with
  |0, _ =>
   refine so rfl ?_
   intro fb wi hx hb hd K hK
   have x4 : fb.eval (.tmp 4) = .pointer (some ⟨w.heap.size + 1, 0, none⟩) := hb 4 rfl
   refine sv rfl (v := .pointer (some ⟨w.heap.size + 1, 0, none⟩)) (w' := wi) (fun ρ hρ hc => ?_) (hK _ _ (Ext.refl _) (rfl))
   have r4 := (hρ (.tmp 4)).trans x4
   simp [execOp, go_sem, r4]
  |1, _ =>
   refine so rfl ?_
   intro fb wi hx hb hd K hK
   have x12 : fb.eval (.tmp 12) = .pointer (some ⟨w.heap.size + 1, 0, none⟩) := hd 0 12 rfl (by kernel_rfl)
   have cf0 := (HB2.out.ext hx).cell 0
   have cf1 := (HB2.out.ext hx).cell 1
   simp only [List.getElem?_cons_zero, List.getElem?_cons_succ] at cf0 cf1
   refine sv rfl (v := .agg #[.int .i64 ax, .int .i64 ay]) (w' := wi) (fun ρ hρ hc => ?_) (hK _ _ (Ext.refl _) (rfl))
   have r12 := (hρ (.tmp 12)).trans x12
   simp [execOp, go_sem, r12, cf0, cf1]
  |2, _ =>
   refine so rfl ?_
   intro fb wi hx hb hd K hK
   have x13 : fb.eval (.tmp 13) = .agg #[.int .i64 ax, .int .i64 ay] := hd 1 13 rfl (by kernel_rfl)
   refine sc rfl 85 [.tmp 13] #[49] rfl _ Tryz.func85 rfl (by decide +kernel) [.agg #[.int .i64 ax, .int .i64 ay]] (by simp only [List.map_cons, List.map_nil, x13]) (exactC_any (ax, ay) wi HIA.out) (fun e w' h => rk hK h)
  |3, _ =>
   refine so rfl ?_
   intro fb wi hx hb hd K hK
   have x4 : fb.eval (.tmp 4) = .pointer (some ⟨w.heap.size + 1, 0, none⟩) := hb 4 rfl
   refine sv rfl (v := .pointer (some ⟨w.heap.size + 1, 2, none⟩)) (w' := wi) (fun ρ hρ hc => ?_) (hK _ _ (Ext.refl _) (rfl))
   have r4 := (hρ (.tmp 4)).trans x4
   simp [execOp, go_sem, r4]
  |4, _ =>
   refine so rfl ?_
   intro fb wi hx hb hd K hK
   have x15 : fb.eval (.tmp 15) = .pointer (some ⟨w.heap.size + 1, 2, none⟩) := hd 3 15 rfl (by kernel_rfl)
   have cf0 := (HB2.out.ext hx).cell 2
   have cf1 := (HB2.out.ext hx).cell 3
   simp only [List.getElem?_cons_zero, List.getElem?_cons_succ] at cf0 cf1
   refine sv rfl (v := .agg #[.int .i64 ax', .int .i64 ay']) (w' := wi) (fun ρ hρ hc => ?_) (hK _ _ (Ext.refl _) (rfl))
   have r15 := (hρ (.tmp 15)).trans x15
   simp [execOp, go_sem, r15, cf0, cf1]
  |5, _ =>
   refine so rfl ?_
   intro fb wi hx hb hd K hK
   have x16 : fb.eval (.tmp 16) = .agg #[.int .i64 ax', .int .i64 ay'] := hd 4 16 rfl (by kernel_rfl)
   refine sc rfl 85 [.tmp 16] #[49] rfl _ Tryz.func85 rfl (by decide +kernel) [.agg #[.int .i64 ax', .int .i64 ay']] (by simp only [List.map_cons, List.map_nil, x16]) (exactC_any (ax', ay') wi HIA'.out) (fun e w' h => rk hK h)
  |6, _ =>
   refine so rfl ?_
   intro fb wi hx hb hd K hK
   have x5 : fb.eval (.tmp 5) = .pointer (some ⟨w.heap.size + 1 + 1, 0, none⟩) := hb 5 rfl
   refine sv rfl (v := .pointer (some ⟨w.heap.size + 1 + 1, 0, none⟩)) (w' := wi) (fun ρ hρ hc => ?_) (hK _ _ (Ext.refl _) (rfl))
   have r5 := (hρ (.tmp 5)).trans x5
   simp [execOp, go_sem, r5]
  |7, _ =>
   refine so rfl ?_
   intro fb wi hx hb hd K hK
   have x18 : fb.eval (.tmp 18) = .pointer (some ⟨w.heap.size + 1 + 1, 0, none⟩) := hd 6 18 rfl (by kernel_rfl)
   have cf0 := (HB3.out.ext hx).cell 0
   have cf1 := (HB3.out.ext hx).cell 1
   simp only [List.getElem?_cons_zero, List.getElem?_cons_succ] at cf0 cf1
   refine sv rfl (v := .agg #[.int .i64 bx, .int .i64 b_y]) (w' := wi) (fun ρ hρ hc => ?_) (hK _ _ (Ext.refl _) (rfl))
   have r18 := (hρ (.tmp 18)).trans x18
   simp [execOp, go_sem, r18, cf0, cf1]
  |8, _ =>
   refine so rfl ?_
   intro fb wi hx hb hd K hK
   have x19 : fb.eval (.tmp 19) = .agg #[.int .i64 bx, .int .i64 b_y] := hd 7 19 rfl (by kernel_rfl)
   refine sc rfl 85 [.tmp 19] #[49] rfl _ Tryz.func85 rfl (by decide +kernel) [.agg #[.int .i64 bx, .int .i64 b_y]] (by simp only [List.map_cons, List.map_nil, x19]) (exactC_any (bx, b_y) wi HIB.out) (fun e w' h => rk hK h)
  |9, _ =>
   refine so rfl ?_
   intro fb wi hx hb hd K hK
   have x5 : fb.eval (.tmp 5) = .pointer (some ⟨w.heap.size + 1 + 1, 0, none⟩) := hb 5 rfl
   refine sv rfl (v := .pointer (some ⟨w.heap.size + 1 + 1, 2, none⟩)) (w' := wi) (fun ρ hρ hc => ?_) (hK _ _ (Ext.refl _) (rfl))
   have r5 := (hρ (.tmp 5)).trans x5
   simp [execOp, go_sem, r5]
  |10, _ =>
   refine so rfl ?_
   intro fb wi hx hb hd K hK
   have x21 : fb.eval (.tmp 21) = .pointer (some ⟨w.heap.size + 1 + 1, 2, none⟩) := hd 9 21 rfl (by kernel_rfl)
   have cf0 := (HB3.out.ext hx).cell 2
   have cf1 := (HB3.out.ext hx).cell 3
   simp only [List.getElem?_cons_zero, List.getElem?_cons_succ] at cf0 cf1
   refine sv rfl (v := .agg #[.int .i64 bx', .int .i64 b_y']) (w' := wi) (fun ρ hρ hc => ?_) (hK _ _ (Ext.refl _) (rfl))
   have r21 := (hρ (.tmp 21)).trans x21
   simp [execOp, go_sem, r21, cf0, cf1]
  |11, _ =>
   refine so rfl ?_
   intro fb wi hx hb hd K hK
   have x22 : fb.eval (.tmp 22) = .agg #[.int .i64 bx', .int .i64 b_y'] := hd 10 22 rfl (by kernel_rfl)
   refine sc rfl 85 [.tmp 22] #[49] rfl _ Tryz.func85 rfl (by decide +kernel) [.agg #[.int .i64 bx', .int .i64 b_y']] (by simp only [List.map_cons, List.map_nil, x22]) (exactC_any (bx', b_y') wi HIB'.out) (fun e w' h => rk hK h)
  |12, _ =>
   refine so rfl ?_
   intro fb wi hx hb hd K hK
   have y14 : IsP ((ax : Int) : Rat) ((ay : Int) : Rat) (fb.eval (.tmp 14)) wi := hd 2 14 rfl (by kernel_rfl)
   have y17 : IsP ((ax' : Int) : Rat) ((ay' : Int) : Rat) (fb.eval (.tmp 17)) wi := hd 5 17 rfl (by kernel_rfl)
   have y20 : IsP ((bx : Int) : Rat) ((b_y : Int) : Rat) (fb.eval (.tmp 20)) wi := hd 8 20 rfl (by kernel_rfl)
   have y23 : IsP ((bx' : Int) : Rat) ((b_y' : Int) : Rat) (fb.eval (.tmp 23)) wi := hd 11 23 rfl (by kernel_rfl)
   refine sc rfl 84 [.tmp 14, .tmp 17, .tmp 20, .tmp 23] #[155, 155, 155, 155] rfl _ Tryz.func84 rfl (by decide +kernel) [fb.eval (.tmp 14), fb.eval (.tmp 17), fb.eval (.tmp 20), fb.eval (.tmp 23)] rfl (retFx (pmeet0_any (ax, ay) (ax', ay') (bx, b_y) (bx', b_y') _ _ _ _ wi y14 y17 y20 y23 HIA.out HIA'.out HIB.out HIB'.out HB.out)) (fun e w' h => rk hK h)
  |13, _ =>
   refine so rfl ?_
   intro fb wi hx hb hd K hK
   have y24 : Fx (.tuple #[.agg #[.bool false, .slice none 0 0, .slice none 0 0, .bool false, .slice none 0 0, .slice none 0 0], .int .i64 10]) (fb.eval (.tmp 24)) wi := hd 12 24 rfl (by kernel_rfl)
   refine sv rfl (v := fb.eval (.tmp 24)) (w' := wi) (fun ρ hρ hc => ?_) (hK _ _ (Ext.refl _) y24)
   simp [execOp, go_sem, hρ (.tmp 24)]
  |14, _ =>
   refine so rfl ?_
   intro fb wi hx hb hd K hK
   have y11 : Fx (.tuple #[.agg #[.bool false, .slice none 0 0, .slice none 0 0, .bool false, .slice none 0 0, .slice none 0 0], .int .i64 10]) (fb.eval (.tmp 11)) wi := hd 13 11 rfl (by kernel_rfl)
   have x11 : fb.eval (.tmp 11) = .tuple #[.agg #[.bool false, .slice none 0 0, .slice none 0 0, .bool false, .slice none 0 0, .slice none 0 0], .int .i64 10] := y11
   refine sv rfl (v := .agg #[.bool false, .slice none 0 0, .slice none 0 0, .bool false, .slice none 0 0, .slice none 0 0]) (w' := wi) (fun ρ hρ hc => ?_) (hK _ _ (Ext.refl _) (rfl))
   have r11 := (hρ (.tmp 11)).trans x11
   simp [execOp, go_sem, r11]
  |15, _ =>
   refine so rfl ?_
   intro fb wi hx hb hd K hK
   have y11 : Fx (.tuple #[.agg #[.bool false, .slice none 0 0, .slice none 0 0, .bool false, .slice none 0 0, .slice none 0 0], .int .i64 10]) (fb.eval (.tmp 11)) wi := hd 13 11 rfl (by kernel_rfl)
   have x11 : fb.eval (.tmp 11) = .tuple #[.agg #[.bool false, .slice none 0 0, .slice none 0 0, .bool false, .slice none 0 0, .slice none 0 0], .int .i64 10] := y11
   refine sv rfl (v := .int .i64 10) (w' := wi) (fun ρ hρ hc => ?_) (hK _ _ (Ext.refl _) (rfl))
   have r11 := (hρ (.tmp 11)).trans x11
   simp [execOp, go_sem, r11]
  |16, _ =>
   refine so rfl ?_
   intro fb wi hx hb hd K hK
   refine sv rfl (v := .pointer (some ⟨wi.heap.size, 0, none⟩)) (w' := wi.alloc (.cells #[.bool false, .slice none 0 0, .slice none 0 0, .bool false, .slice none 0 0, .slice none 0 0] 155)) (fun ρ hρ hc => ?_) (hK _ _ ((Ext.refl _).alloc _) (⟨wi.heap.size, rfl, hx.size, Blk.new' rfl⟩))
   simp [execOp, go_sem]
  |17, _ =>
   exact absurd rfl his
  |n + 18, hn => exact absurd hn (by omega)
 ·skip
  have t7 : (IsNew 155 W0.heap.size [.bool false, .slice none 0 0, .slice none 0 0, .bool false, .slice none 0 0, .slice none 0 0]) (xs 16) w1 := hT 16 (by decide) (by decide)
  have t26 : Fx (.int .i64 10) (xs 15) w1 := hT 15 (by decide) (by decide)
  simp only [frOf, putAll, List.drop_succ_cons, List.drop_zero, List.setIfInBounds_toArray, List.set_cons_succ, List.set_cons_zero, Nat.zero_add, Nat.reduceAdd]
  obtain ⟨g5, q7, hg5, hb5⟩ := t7
  have q26 : xs 15 = .int .i64 10 := t26
  rw [q7, q26]
  have HX9 := Lib.hid (HX0.out.trans hx)
  have HC2 := Lib.hid (HB2.out.ext hx); have HC3 := Lib.hid (HB3.out.ext hx)
  clear hT t26 q26 q7 hg5 hb5 hx HX0 HB1 HB2 HB3
  have a2 := HC2.out.cell 2; have a3 := HC2.out.cell 3
  have d0 := HC3.out.cell 0; have d1 := HC3.out.cell 1
  simp only [List.getElem?_cons_zero, List.getElem?_cons_succ] at a2 a3 d0 d1
  go_wp2_with fail
  go_ret
  exact ⟨_, rfl, BlkS.own (L := [(ax', ay'), (bx, b_y)]) (BlkS.new _ [(ax', ay'), (bx, b_y)]) HX9.out.size (by simp), HX9.out.alloc _⟩
/- a moved segment -/
abbrev SGV (s : SegW) : Value := .agg #[.int .i64 s.1.1, .int .i64 s.1.2, .int .i64 s.2.1.1, .int .i64 s.2.1.2, .int .i64 s.2.2]
def cornC (v : Spot) (a b : SegW) : List Spot := if ptB a.1 a.2.1 b.1 b.2.1 = 0 then [a.2.1, b.1] else cornerL v.1 v.2 a.1.1 a.1.2 a.2.1.1 a.2.1.2 b.1.1 b.1.2 b.2.1.1 b.2.1.2 a.2.2 b.2.2
structure SgOk (s : SegW) : Prop where
 a : inC s.1
 b : inC s.2.1
 w : 0 ≤ s.2.2 ∧ s.2.2 ≤ 500
theorem acorner_any (v : Spot) (a b : SegW) (w : World) (iv : inC v) (ha : SgOk a) (hb : SgOk b) : Calls Tryz.prog 59 #[SV v, SGV a, SGV b] w (RetS w (cornC v a b)) := by
 obtain ⟨vx, vy⟩ := v
 obtain ⟨⟨ax, ay⟩, ⟨ax', ay'⟩, aw⟩ := a
 obtain ⟨⟨bx, b_y⟩, ⟨bx', b_y'⟩, bw⟩ := b
 unfold cornC
 by_cases hB : ptB (ax, ay) (ax', ay') (bx, b_y) (bx', b_y') = 0
 ·rw [if_pos hB]
  exact corner0_any vx vy ax ay ax' ay' bx b_y bx' b_y' aw bw w iv ha.a ha.b hb.a hb.b ha.w hb.w hB
 ·rw [if_neg hB]
  exact corner1_any vx vy ax ay ax' ay' bx b_y bx' b_y' aw bw w iv ha.a ha.b hb.a hb.b ha.w hb.w hB
def sgcells (l : List SegW) : List Value := l.flatMap fun s => [.int .i64 s.1.1, .int .i64 s.1.2, .int .i64 s.2.1.1, .int .i64 s.2.1.2, .int .i64 s.2.2]
def gG (l : List SegW) (k : Nat) : SegW := l.getD k ((0, 0), (0, 0), 0)
theorem gG_eq {l : List SegW} {k : Nat} (h : k < l.length) : gG l k = l[k] := by simp [gG, h]
theorem gG_set {a : List SegW} {k p : Nat} {s : SegW} (hk : k < a.length) : gG (a.set k s) p = if p = k then s else gG a p := by
 by_cases h : p = k
 ·subst h; simp [gG, hk]
 ·rw [if_neg h]; simp [gG, show ¬ k = p from fun e => h e.symm]
theorem sgcells_length (l : List SegW) : (sgcells l).length = l.length * 5 := by
 induction l with
 |nil => rfl
 |cons s l ih => simp [sgcells] at ih ⊢; omega
theorem sgcells_at (l : List SegW) (k : Nat) : (sgcells l)[k * 5]? = (l[k]?).map (fun s => .int .i64 s.1.1) ∧ (sgcells l)[k * 5 + 1]? = (l[k]?).map (fun s => .int .i64 s.1.2) ∧ (sgcells l)[k * 5 + 2]? = (l[k]?).map (fun s => .int .i64 s.2.1.1) ∧ (sgcells l)[k * 5 + 3]? = (l[k]?).map (fun s => .int .i64 s.2.1.2) ∧ (sgcells l)[k * 5 + 4]? = (l[k]?).map (fun s => .int .i64 s.2.2) := by
 induction l generalizing k with
 |nil => simp [sgcells]
 |cons s l ih =>
  cases k with
  |zero => simp [sgcells]
  |succ k =>
   have := ih k
   rw [show (k + 1) * 5 = k * 5 + 5 from by omega, show k * 5 + 5 + 1 = k * 5 + 1 + 5 by omega, show k * 5 + 5 + 2 = k * 5 + 2 + 5 by omega, show k * 5 + 5 + 3 = k * 5 + 3 + 5 by omega, show k * 5 + 5 + 4 = k * 5 + 4 + 5 by omega]
   simpa [sgcells] using this
theorem sgcells_set (L : List SegW) (k : Nat) (s : SegW) : (((((sgcells L).set (k * 5) (.int .i64 s.1.1)).set (k * 5 + 1) (.int .i64 s.1.2)).set (k * 5 + 2) (.int .i64 s.2.1.1)).set (k * 5 + 3) (.int .i64 s.2.1.2)).set (k * 5 + 4) (.int .i64 s.2.2) = sgcells (L.set k s) := by
 induction L generalizing k with
 |nil => simp [sgcells]
 |cons t L ih =>
  cases k with
  |zero => simp [sgcells]
  |succ k =>
   have := ih k
   rw [show (k + 1) * 5 = k * 5 + 5 from by omega, show k * 5 + 5 + 1 = k * 5 + 1 + 5 by omega, show k * 5 + 5 + 2 = k * 5 + 2 + 5 by omega, show k * 5 + 5 + 3 = k * 5 + 3 + 5 by omega, show k * 5 + 5 + 4 = k * 5 + 4 + 5 by omega]
   simpa [sgcells] using this
def BlkG (w : World) (g : Nat) (L : List SegW) : Prop := Blk 120 w g (sgcells L)
theorem BlkG.at {w : World} {g : Nat} {L : List SegW} (h : BlkG w g L) {k : Nat} (hk : k < L.length) :
  w.cell? ⟨g, k * 5, none⟩ = some (.int .i64 (gG L k).1.1) ∧ w.cell? ⟨g, k * 5 + 1, none⟩ = some (.int .i64 (gG L k).1.2) ∧ w.cell? ⟨g, k * 5 + 2, none⟩ = some (.int .i64 (gG L k).2.1.1) ∧ w.cell? ⟨g, k * 5 + 3, none⟩ = some (.int .i64 (gG L k).2.1.2) ∧ w.cell? ⟨g, k * 5 + 4, none⟩ = some (.int .i64 (gG L k).2.2) := by
 obtain ⟨h0, h1, h2, h3, h4⟩ := sgcells_at L k
 rw [gG_eq hk]
 refine ⟨?_, ?_, ?_, ?_, ?_⟩ <;> rw [Blk.cell h]
 ·rw [h0]; simp [hk]
 ·rw [h1]; simp [hk]
 ·rw [h2]; simp [hk]
 ·rw [h3]; simp [hk]
 ·rw [h4]; simp [hk]
theorem BlkG.set {w : World} {g : Nat} {L : List SegW} (h : BlkG w g L) (k : Nat) (s : SegW) : BlkG (((((w.setCell ⟨g, k * 5, none⟩ (.int .i64 s.1.1)).setCell ⟨g, k * 5 + 1, none⟩ (.int .i64 s.1.2)).setCell ⟨g, k * 5 + 2, none⟩ (.int .i64 s.2.1.1)).setCell ⟨g, k * 5 + 3, none⟩ (.int .i64 s.2.1.2)).setCell ⟨g, k * 5 + 4, none⟩ (.int .i64 s.2.2)) g (L.set k s) := by
 unfold BlkG
 rw [← sgcells_set]
 exact ((((Blk.set h _ _).set _ _).set _ _).set _ _).set _ _
theorem made_five (n : Nat) : madeCells #[.int .i64 0, .int .i64 0, .int .i64 0, .int .i64 0, .int .i64 0] (n * 5) = (sgcells (List.replicate n ((0, 0), (0, 0), 0))).toArray := by
 apply Array.ext
 ·simp [size_madeCells, sgcells_length]
 ·intro i h1 h2
  have hi : i < n * 5 := by simpa [size_madeCells] using h1
  have key : (sgcells (List.replicate n ((0, 0), (0, 0), 0)))[i]? = some (.int .i64 0) := by
   obtain ⟨h0, h1, h2, h3, h4⟩ := sgcells_at (List.replicate n ((0, 0), (0, 0), 0)) (i / 5)
   have hq : (List.replicate n (((0, 0), (0, 0), 0) : SegW))[i / 5]? = some ((0, 0), (0, 0), 0) := by rw [List.getElem?_replicate, if_pos (by omega)]
   rw [hq] at h0 h1 h2 h3 h4
   have hc : i = i / 5 * 5 ∨ i = i / 5 * 5 + 1 ∨ i = i / 5 * 5 + 2 ∨ i = i / 5 * 5 + 3 ∨ i = i / 5 * 5 + 4 := by omega
   rcases hc with e | e | e | e | e <;> rw [e] <;> assumption
  have k2 := (List.getElem?_eq_some_iff.1 key).2
  have e : i % 5 = 0 ∨ i % 5 = 1 ∨ i % 5 = 2 ∨ i % 5 = 3 ∨ i % 5 = 4 := by omega
  simp only [List.getElem_toArray, k2]
  simp only [madeCells, Array.getElem_map, Array.getElem_range]
  rcases e with e | e | e | e | e <;> simp [e]
theorem make_segs (n : Nat) (hn : n ≤ 100000) (w : World) : (Instr.makeSlice 117 (.int .i64 n) (.int .i64 n)).run Tryz.prog w = .ok (.slice (some ⟨w.heap.size, 0, none⟩) n n) (w.alloc (.cells (madeCells #[.int .i64 0, .int .i64 0, .int .i64 0, .int .i64 0, .int .i64 0] (n * 5)) 120)) := by
 have h := run_make (P := Tryz.prog) w 117 120 (i := ((Tryz.prog.info? 120).getD default)) (z := .agg #[.int .i64 0, .int .i64 0, .int .i64 0, .int .i64 0, .int .i64 0]) Tryz.underlying117 (by kernel_rfl) (by kernel_rfl) .i64 .i64 n n (by omega) (by omega) (by
  rw [show ((Tryz.prog.info? 120).getD default).bytes = 40 from by kernel_rfl]; omega) (by omega)
 rw [show ((Tryz.prog.info? 120).getD default).size = 5 from by kernel_rfl] at h
 simpa [Value.cells] using h
/- the points, plain -/
def sgP (vs sh : List Spot) (each : List Int) (i : Nat) : SegW := (addS (gS vs i) (gS sh i), addS (gS vs ((i + 1) % vs.length)) (gS sh i), gI each i)
def addP (l : List Spot) (p : Spot) : List Spot := if l ≠ [] ∧ gS l (l.length - 1) = p then l else l ++ [p]
def ptP (vs sh : List Spot) (each : List Int) : Nat → List Spot
 |0 => []
 |k + 1 => (cornC (gS vs k) (sgP vs sh each ((k + vs.length - 1) % vs.length)) (sgP vs sh each k)).foldl addP (ptP vs sh each k)
def dropP : Nat → List Spot → List Spot
 |0, l => l
 |f + 1, l => if 2 ≤ l.length ∧ gS l (l.length - 1) = gS l 0 then dropP f (l.take (l.length - 1)) else l
def ptsA (es : List Edge) (ws : List Int) : List Spot := dropP 100 (ptP (verts es) (shOf es ws) (segWd es ws es.length) (verts es).length)
end Go.Proofs.YtfegbaokcbjllaaGreat
