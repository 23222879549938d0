/- allowance: exact, sum, within, rounded, orientation -/
import Derived.Test.YtfegbaokcbjllaaGreatKPt
import Derived.Test.YtfegbaokcbjllaaGreatKSlotP
import Derived.Test.YtfegbaokcbjllaaGreatKGraded
/- plain: sizes on the way to the common point of two lines through spots. -/
namespace Go.Proofs.YtfegbaokcbjllaaGreat
open Go.RowKit
/- the bound of coordinates -/
def CB : Nat := 16000
theorem cb_db : 16 * (CB * CB) < DB := by decide
theorem cb_sz : CB < 4194304 := by decide
def inC (s : Int × Int) : Prop := s.1.natAbs ≤ CB ∧ s.2.natAbs ≤ CB
theorem den_int (z : Int) : (z : Rat).den = 1 := Rat.den_intCast z
theorem num_int (z : Int) : (z : Rat).num = z := Rat.num_intCast z
theorem db_one : 1 < DB := by decide
theorem rat_sub_int (a b : Int) : (a : Rat) - (b : Rat) = ((a - b : Int) : Rat) := (Rat.intCast_sub a b).symm
theorem rat_mul_int (a b : Int) : (a : Rat) * (b : Rat) = ((a * b : Int) : Rat) := (Rat.intCast_mul a b).symm
theorem mk_abs_le {z : Int} {d : Nat} (hd : d ≠ 0) : (mkRat z d).num.natAbs ≤ z.natAbs := by rw [mkRat_abs hd]; exact Nat.div_le_self _ _
theorem mk_den_le {z : Int} {d : Nat} (hd : d ≠ 0) : (mkRat z d).den ≤ d := by rw [mkRat_den hd]; exact Nat.div_le_self _ _
theorem div_int {a b : Int} (hb : b ≠ 0) : ((a : Rat) / (b : Rat)).num.natAbs ≤ a.natAbs ∧ ((a : Rat) / (b : Rat)).den ≤ b.natAbs := by
 have hb' : b.natAbs ≠ 0 := fun e => hb (Int.natAbs_eq_zero.1 e)
 rw [rat_div _ _ (by rw [num_int]; exact hb)]
 rw [num_int, num_int, den_int, den_int, Nat.mul_one, Nat.one_mul]
 refine ⟨Nat.le_trans (mk_abs_le hb') (by rw [sgI_abs]; exact Nat.le_refl _), mk_den_le hb'⟩
theorem mul_int_le (k : Int) (r : Rat) : ((k : Rat) * r).num.natAbs ≤ k.natAbs * r.num.natAbs ∧ ((k : Rat) * r).den ≤ r.den := by
 rw [rat_mul, num_int, den_int, Nat.one_mul]
 exact ⟨Nat.le_trans (mk_abs_le r.den_nz) (by rw [Int.natAbs_mul]; exact Nat.le_refl _), mk_den_le r.den_nz⟩
theorem add_int_le (k : Int) (r : Rat) : ((k : Rat) + r).num.natAbs ≤ k.natAbs * r.den + r.num.natAbs ∧ ((k : Rat) + r).den ≤ r.den := by
 rw [rat_add, num_int, den_int, Nat.one_mul]
 refine ⟨Nat.le_trans (mk_abs_le r.den_nz) (Nat.le_trans (Int.natAbs_add_le _ _) ?_), mk_den_le r.den_nz⟩
 rw [Int.natAbs_mul, Int.natAbs_mul, Int.natAbs_natCast]
 simp
theorem sub_int_le (r : Rat) (k : Int) : (r - (k : Rat)).num.natAbs ≤ k.natAbs * r.den + r.num.natAbs ∧ (r - (k : Rat)).den ≤ r.den := by
 have h := add_int_le (-k) r
 rw [Int.natAbs_neg] at h
 have e : r - (k : Rat) = ((-k : Int) : Rat) + r := by rw [Rat.sub_eq_add_neg, Rat.add_comm, Rat.intCast_neg]
 rw [e]; exact h
/- a bound for all: 2^96 -/
theorem sz_96 {n : Nat} (h : n < 79228162514264337593543950336) : Sz 100 n := (show Sz 3 n from by unfold Sz; omega).mono (by omega)
theorem abs_sub {a b : Int} {n m : Nat} (ha : a.natAbs ≤ n) (hb : b.natAbs ≤ m) : (a - b).natAbs ≤ n + m := by omega
/- the numbers of a common point -/
def ptA (a : Int × Int) (_ : Int × Int) (c d : Int × Int) : Int := (c.1 - a.1) * (d.2 - c.2) - (c.2 - a.2) * (d.1 - c.1)
def ptB (a b c d : Int × Int) : Int := (b.1 - a.1) * (d.2 - c.2) - (b.2 - a.2) * (d.1 - c.1)
def ptT (a b c d : Int × Int) : Rat := (ptA a b c d : Rat) / (ptB a b c d : Rat)
def ptX (a b c d : Int × Int) : Rat := (a.1 : Rat) + ((b.1 - a.1 : Int) : Rat) * ptT a b c d
def ptY (a b c d : Int × Int) : Rat := (a.2 : Rat) + ((b.2 - a.2 : Int) : Rat) * ptT a b c d
theorem cross_le {x y x' y' : Int} {n : Nat} (hx : x.natAbs ≤ n) (hy : y.natAbs ≤ n) (hx' : x'.natAbs ≤ n) (hy' : y'.natAbs ≤ n) : (x * y' - y * x').natAbs ≤ 2 * (n * n) := by
 have h1 : (x * y').natAbs ≤ n * n := by rw [Int.natAbs_mul]; exact Nat.mul_le_mul hx hy'
 have h2 : (y * x').natAbs ≤ n * n := by rw [Int.natAbs_mul]; exact Nat.mul_le_mul hy hx'
 have := abs_sub h1 h2
 omega
section
variable {a b c d : Int × Int}
theorem ptA_le (ha : inC a) (hc : inC c) (hd : inC d) : (ptA a b c d).natAbs ≤ 8 * (CB * CB) := by
 have := cross_le (x := c.1 - a.1) (y := c.2 - a.2) (x' := d.1 - c.1) (y' := d.2 - c.2) (n := CB + CB) (abs_sub hc.1 ha.1) (abs_sub hc.2 ha.2) (abs_sub hd.1 hc.1) (abs_sub hd.2 hc.2)
 unfold ptA
 have e : 2 * ((CB + CB) * (CB + CB)) = 8 * (CB * CB) := by rw [Nat.add_mul, Nat.mul_add CB CB CB]; omega
 omega
theorem ptB_le (ha : inC a) (hb : inC b) (hc : inC c) (hd : inC d) : (ptB a b c d).natAbs ≤ 8 * (CB * CB) := by
 have := cross_le (x := b.1 - a.1) (y := b.2 - a.2) (x' := d.1 - c.1) (y' := d.2 - c.2) (n := CB + CB) (abs_sub hb.1 ha.1) (abs_sub hb.2 ha.2) (abs_sub hd.1 hc.1) (abs_sub hd.2 hc.2)
 unfold ptB
 have e : 2 * ((CB + CB) * (CB + CB)) = 8 * (CB * CB) := by rw [Nat.add_mul, Nat.mul_add CB CB CB]; omega
 omega
theorem cb2 : CB * CB < 17592186044416 := by
 have h := cb_sz
 have : CB * CB ≤ CB * 4194304 := Nat.mul_le_mul_left _ (by omega)
 omega
theorem ptT_le (ha : inC a) (hc : inC c) (hd : inC d) (hB : ptB a b c d ≠ 0) : (ptT a b c d).num.natAbs ≤ 8 * (CB * CB) ∧ (ptT a b c d).den ≤ (ptB a b c d).natAbs := by
 obtain ⟨h1, h2⟩ := div_int (a := ptA a b c d) hB
 exact ⟨Nat.le_trans h1 (ptA_le ha hc hd), h2⟩
theorem mulT_le {k : Int} (hk : k.natAbs ≤ CB + CB) {r : Rat} (hr : r.num.natAbs ≤ 8 * (CB * CB)) : ((k : Rat) * r).num.natAbs < 2 ^ 80 ∧ ((k : Rat) * r).den ≤ r.den := by
 obtain ⟨h1, h2⟩ := mul_int_le k r
 refine ⟨?_, h2⟩
 have h3 : k.natAbs * r.num.natAbs ≤ 8388608 * 140737488355328 := Nat.mul_le_mul (by have := cb_sz; omega) (by have := cb2; omega)
 have : (2 : Nat) ^ 80 = 1208925819614629174706176 := by decide
 omega
theorem addT_le {k : Int} (hk : k.natAbs ≤ CB) {r : Rat} (hr : r.num.natAbs < 2 ^ 80) (hd : r.den ≤ 8 * (CB * CB)) : ((k : Rat) + r).num.natAbs < 2 ^ 81 ∧ ((k : Rat) + r).den ≤ r.den := by
 obtain ⟨h1, h2⟩ := add_int_le k r
 refine ⟨?_, h2⟩
 have h3 : k.natAbs * r.den ≤ 4194304 * 140737488355328 := Nat.mul_le_mul (by have := cb_sz; omega) (by have := cb2; omega)
 have : (2 : Nat) ^ 80 = 1208925819614629174706176 := by decide
 have : (2 : Nat) ^ 81 = 2417851639229258349412352 := by decide
 omega
theorem subT_le {k : Int} (hk : k.natAbs ≤ CB) {r : Rat} (hr : r.num.natAbs < 2 ^ 81) (hd : r.den ≤ 8 * (CB * CB)) : (r - (k : Rat)).num.natAbs < 2 ^ 82 ∧ (r - (k : Rat)).den ≤ r.den := by
 obtain ⟨h1, h2⟩ := sub_int_le r k
 refine ⟨?_, h2⟩
 have h3 : k.natAbs * r.den ≤ 4194304 * 140737488355328 := Nat.mul_le_mul (by have := cb_sz; omega) (by have := cb2; omega)
 have : (2 : Nat) ^ 82 = 4835703278458516698824704 := by decide
 have : (2 : Nat) ^ 81 = 2417851639229258349412352 := by decide
 omega
theorem rb_lt {r : Rat} (h1 : r.num.natAbs < 2 ^ 82) (h2 : r.den < 2 ^ 82) : RB r := by
 have : (2 : Nat) ^ 82 = 4835703278458516698824704 := by decide
 exact ⟨sz_96 (by omega), sz_96 (by omega)⟩
theorem int1 {k : Int} (hk : k.natAbs ≤ CB + CB) : RB (k : Rat) := by
 have h1 := cb_sz
 have h2 : (2 : Nat) ^ 82 = 4835703278458516698824704 := by decide
 refine rb_lt ?_ ?_
 ·rw [num_int]; omega
 ·rw [den_int]; omega
end
section
variable {t : TypeId} {w w' : World} {G : Nat} {cs : List Value} {v : Value}
theorem IsR.oth {r : Rat} (hb : Blk t w G cs) (hn : nou cs = true) (k : Kept (fun b => b = G) w w') (h : IsR r v w) : IsR r v w' := by
 obtain ⟨u, d, h1, h2, h3⟩ := h; exact ⟨u, d, h1, h2.other hb hn k, h3.other hb hn k⟩
theorem IsP.oth {x y : Rat} (hb : Blk t w G cs) (hn : nou cs = true) (k : Kept (fun b => b = G) w w') (h : IsP x y v w) : IsP x y v w' := by
 obtain ⟨u, d, u', d', h1, h2, h3, h4, h5⟩ := h; exact ⟨u, d, u', d', h1, h2.other hb hn k, h3.other hb hn k, h4.other hb hn k, h5.other hb hn k⟩
def IsOkR (r : Rat) : Value → World → Prop := IsOk (IsR r)
theorem IsOkR.kp (r : Rat) : Kp (IsOkR r) := fun v w w' he h => by obtain ⟨u, h1, h2⟩ := h; exact ⟨u, h1, h2.ext he⟩
theorem IsOkR.oth {r : Rat} (hb : Blk t w G cs) (hn : nou cs = true) (k : Kept (fun b => b = G) w w') (h : IsOkR r v w) : IsOkR r v w' := by obtain ⟨u, h1, h2⟩ := h; exact ⟨u, h1, h2.oth hb hn k⟩
end
def Any : Value → World → Prop := fun _ _ => True
theorem Any.kp : Kp Any := fun _ _ _ _ _ => trivial
/- a ratio in a block of the call's own -/
def StR (n : Nat) (r : Rat) : Value → World → Prop := fun v w => ∃ g u d, v = .pointer (some ⟨g, 0, none⟩) ∧ n ≤ g ∧ Blk 145 w g [.bool (negI r.num), u, d] ∧ NatAt w u r.num.natAbs ∧ NatAt w d r.den
theorem StR.kp (n : Nat) (r : Rat) : Kp (StR n r) := fun v w w' he h => by obtain ⟨g, u, d, h1, h2, h3, h4, h5⟩ := h; exact ⟨g, u, d, h1, h2, h3.ext he, h4.ext he, h5.ext he⟩
/- between points of whole coordinates -/
theorem psubI_any (a b : Int × Int) (v v' : Value) (w : World) (h : IsP (a.1 : Rat) (a.2 : Rat) v w) (h' : IsP (b.1 : Rat) (b.2 : Rat) v' w) (ia : inC a) (ib : inC b) : Calls Tryz.prog 87 #[v, v'] w (Ret (IsP ((a.1 - b.1 : Int) : Rat) ((a.2 - b.2 : Int) : Rat)) w) := by
 have hr : ∀ z : Int, z.natAbs ≤ CB → RB (z : Rat) := fun z hz => int1 (by omega)
 have h := psub_any _ _ _ _ v v' w h h' (hr _ ia.1) (hr _ ib.1) (hr _ ia.2) (hr _ ib.2) (by rw [den_int, den_int]; exact db_one) (by rw [den_int, den_int]; exact db_one) (by rw [den_int]; exact db_one) (by rw [den_int]; exact db_one)
 rw [rat_sub_int, rat_sub_int] at h
 exact h
theorem prodI {x y : Int} (hx : x.natAbs ≤ CB + CB) (hy : y.natAbs ≤ CB + CB) : RB ((x * y : Int) : Rat) := by
 refine rb_lt ?_ (by rw [den_int]; decide)
 rw [num_int, Int.natAbs_mul]
 have h1 : x.natAbs * y.natAbs ≤ 8388608 * 8388608 := Nat.mul_le_mul (by have := cb_sz; omega) (by have := cb_sz; omega)
 have : (2 : Nat) ^ 82 = 4835703278458516698824704 := by decide
 omega
theorem pcrossI_any (x y x' y' : Int) (v v' : Value) (w : World) (h : IsP (x : Rat) (y : Rat) v w) (h' : IsP (x' : Rat) (y' : Rat) v' w) (hx : x.natAbs ≤ CB + CB) (hy : y.natAbs ≤ CB + CB) (hx' : x'.natAbs ≤ CB + CB) (hy' : y'.natAbs ≤ CB + CB) : Calls Tryz.prog 107 #[v, v'] w (Ret (IsR ((x * y' - y * x' : Int) : Rat)) w) := by
 have h := pcross_any _ _ _ _ v v' w h h' (int1 hx) (int1 hx') (int1 hy) (int1 hy') (by rw [rat_mul_int]; exact prodI hx hy') (by rw [rat_mul_int]; exact prodI hy hx') (by rw [den_int, den_int]; exact db_one) (by rw [den_int, den_int]; exact db_one) (by rw [rat_mul_int, rat_mul_int, den_int, den_int]; exact db_one) (by rw [rat_mul_int, den_int]; exact db_one)
 rw [rat_mul_int, rat_mul_int, rat_sub_int] at h
 exact h
def IsOk0 (T : Value → World → Prop) : Value → World → Prop := fun v w => ∃ u, v = .tuple #[u, .int .i64 0] ∧ T u w
theorem rbA {a b c d : Int × Int} (ha : inC a) (hc : inC c) (hd : inC d) : RB ((ptA a b c d : Int) : Rat) := by
 have h1 := ptA_le (b := b) ha hc hd
 have h2 := cb2
 refine rb_lt ?_ (by rw [den_int]; decide)
 rw [num_int]
 have : (2 : Nat) ^ 82 = 4835703278458516698824704 := by decide
 omega
theorem rbB {a b c d : Int × Int} (ha : inC a) (hb : inC b) (hc : inC c) (hd : inC d) : RB ((ptB a b c d : Int) : Rat) := by
 have h1 := ptB_le ha hb hc hd
 have h2 := cb2
 refine rb_lt ?_ (by rw [den_int]; decide)
 rw [num_int]
 have : (2 : Nat) ^ 82 = 4835703278458516698824704 := by decide
 omega
theorem dbB {a b c d : Int × Int} (ha : inC a) (hb : inC b) (hc : inC c) (hd : inC d) : (ptB a b c d).natAbs < DB := by
 have h1 := ptB_le ha hb hc hd
 have h2 := cb_db
 omega
theorem ponI_any (a b c d : Int × Int) (v v' z : Value) (w : World) (h : IsP (a.1 : Rat) (a.2 : Rat) v w) (h' : IsP (b.1 : Rat) (b.2 : Rat) v' w) (hr : IsR (ptT a b c d) z w) (ia : inC a) (ib : inC b) (ic : inC c) (id' : inC d) (hB : ptB a b c d ≠ 0) : Calls Tryz.prog 108 #[v, v', z] w (Ret (IsP (ptX a b c d) (ptY a b c d)) w) := by
 have hi : ∀ z : Int, z.natAbs ≤ CB → RB (z : Rat) := fun z hz => int1 (by omega)
 obtain ⟨t1, t2⟩ := ptT_le ia ic id' hB
 have t3 := ptB_le ia ib ic id'
 have t4 := cb2; have t5 := cb_db
 have e82 : (2 : Nat) ^ 82 = 4835703278458516698824704 := by decide
 have e80 : (2 : Nat) ^ 80 = 1208925819614629174706176 := by decide
 have m1 := mulT_le (abs_sub ib.1 ia.1) t1
 have m2 := mulT_le (abs_sub ib.2 ia.2) t1
 have hT : RB (ptT a b c d) := rb_lt (by omega) (by omega)
 have h := pon_any _ _ _ _ _ v v' z w h h' hr (hi _ ia.1) (hi _ ib.1) (hi _ ia.2) (hi _ ib.2) hT (by rw [rat_sub_int]; exact int1 (abs_sub ib.1 ia.1)) (by rw [rat_sub_int]; exact int1 (abs_sub ib.2 ia.2))
  (by rw [rat_sub_int]; exact rb_lt (by omega) (by omega)) (by rw [rat_sub_int]; exact rb_lt (by omega) (by omega)) (by rw [den_int, den_int]; exact db_one) (by rw [den_int, den_int]; exact db_one) (by rw [den_int]; exact db_one) (by rw [den_int]; exact db_one)
  (by rw [rat_sub_int, den_int]; omega) (by rw [rat_sub_int, den_int]; omega) (by rw [rat_sub_int, den_int]; omega) (by rw [rat_sub_int, den_int]; omega)
 rw [rat_sub_int, rat_sub_int] at h
 exact h
set_option maxRecDepth 100000 in
set_option maxHeartbeats 6400000 in
theorem pmeet_any (a b c d : Int × Int) (v1 v2 v3 v4 : Value) (w : World) (h1 : IsP (a.1 : Rat) (a.2 : Rat) v1 w) (h2 : IsP (b.1 : Rat) (b.2 : Rat) v2 w) (h3 : IsP (c.1 : Rat) (c.2 : Rat) v3 w) (h4 : IsP (d.1 : Rat) (d.2 : Rat) v4 w) (ia : inC a) (ib : inC b) (ic : inC c) (id' : inC d) (hB : ptB a b c d ≠ 0) : Calls Tryz.prog 84 #[v1, v2, v3, v4] w (Ret (IsOk0 (IsP (ptX a b c d) (ptY a b c d))) w) := by
 have HBN0 := Lib.hid hB
 clear hB
 have HV1 := Lib.hid h1; have HV2 := Lib.hid h2; have HV3 := Lib.hid h3; have HV4 := Lib.hid h4
 have HIA := Lib.hid ia; have HIB := Lib.hid ib; have HIC := Lib.hid ic; have HID := Lib.hid id'
 clear ia ib ic id'
 obtain ⟨u1, u2, u3, u4, rfl, h1, h2, h3, h4⟩ := h1
 have HA1 := Lib.hid h1; have HA2 := Lib.hid h2; have HA3 := Lib.hid h3; have HA4 := Lib.hid h4
 obtain ⟨A1, k1, c1, rfl⟩ := h1.form
 obtain ⟨A2, k2, c2, rfl⟩ := h2.form
 obtain ⟨A3, k3, c3, rfl⟩ := h3.form
 obtain ⟨A4, k4, c4, rfl⟩ := h4.form
 clear h1 h2 h3 h4
 obtain ⟨s1, hs⟩ : ∃ b_, b_ = negI (a.1 : Rat).num := ⟨_, rfl⟩
 rw [← hs] at HV1 ⊢
 have HE1 := Lib.hid hs
 clear hs
 obtain ⟨s2, hs⟩ : ∃ b_, b_ = negI (a.2 : Rat).num := ⟨_, rfl⟩
 rw [← hs] at HV1 ⊢
 have HE2 := Lib.hid hs
 clear hs
 obtain ⟨u5, u6, u7, u8, rfl, h5, h6, h7, h8⟩ := h2
 have HA5 := Lib.hid h5; have HA6 := Lib.hid h6; have HA7 := Lib.hid h7; have HA8 := Lib.hid h8
 obtain ⟨A5, k5, c5, rfl⟩ := h5.form
 obtain ⟨A6, k6, c6, rfl⟩ := h6.form
 obtain ⟨A7, k7, c7, rfl⟩ := h7.form
 obtain ⟨A8, k8, c8, rfl⟩ := h8.form
 clear h5 h6 h7 h8
 obtain ⟨s3, hs⟩ : ∃ b_, b_ = negI (b.1 : Rat).num := ⟨_, rfl⟩
 rw [← hs] at HV2 ⊢
 have HE5 := Lib.hid hs
 clear hs
 obtain ⟨s4, hs⟩ : ∃ b_, b_ = negI (b.2 : Rat).num := ⟨_, rfl⟩
 rw [← hs] at HV2 ⊢
 have HE6 := Lib.hid hs
 clear hs
 obtain ⟨u9, u10, u11, u12, rfl, h9, h10, h11, h12⟩ := h3
 have HA9 := Lib.hid h9; have HA10 := Lib.hid h10; have HA11 := Lib.hid h11; have HA12 := Lib.hid h12
 obtain ⟨A9, k9, c9, rfl⟩ := h9.form
 obtain ⟨A10, k10, c10, rfl⟩ := h10.form
 obtain ⟨A11, k11, c11, rfl⟩ := h11.form
 obtain ⟨A12, k12, c12, rfl⟩ := h12.form
 clear h9 h10 h11 h12
 obtain ⟨s5, hs⟩ : ∃ b_, b_ = negI (c.1 : Rat).num := ⟨_, rfl⟩
 rw [← hs] at HV3 ⊢
 have HE9 := Lib.hid hs
 clear hs
 obtain ⟨s6, hs⟩ : ∃ b_, b_ = negI (c.2 : Rat).num := ⟨_, rfl⟩
 rw [← hs] at HV3 ⊢
 have HE10 := Lib.hid hs
 clear hs
 obtain ⟨u13, u14, u15, u16, rfl, h13, h14, h15, h16⟩ := h4
 have HA13 := Lib.hid h13; have HA14 := Lib.hid h14; have HA15 := Lib.hid h15; have HA16 := Lib.hid h16
 obtain ⟨A13, k13, c13, rfl⟩ := h13.form
 obtain ⟨A14, k14, c14, rfl⟩ := h14.form
 obtain ⟨A15, k15, c15, rfl⟩ := h15.form
 obtain ⟨A16, k16, c16, rfl⟩ := h16.form
 clear h13 h14 h15 h16
 obtain ⟨s7, hs⟩ : ∃ b_, b_ = negI (d.1 : Rat).num := ⟨_, rfl⟩
 rw [← hs] at HV4 ⊢
 have HE13 := Lib.hid hs
 clear hs
 obtain ⟨s8, hs⟩ : ∃ b_, b_ = negI (d.2 : Rat).num := ⟨_, rfl⟩
 rw [← hs] at HV4 ⊢
 have HE14 := Lib.hid hs
 clear hs
 go_enter Tryz.func84, Tryz.ntmps84
 go_upto_region 1 with fail
 refine wp_at fun W0 hW0 => ?_
 have HX0 : Hid (Ext w W0) := by show Ext _ _; rw [hW0]; exact (((((Ext.refl _).alloc _).alloc _).alloc _).alloc _).alloc _
 have HB1 : Hid (Blk 155 W0 (w.heap.size) [.bool s1, .slice A1 k1 c1, .slice A2 k2 c2, .bool s2, .slice A3 k3 c3, .slice A4 k4 c4]) := by show Blk _ _ _ _; rw [hW0]; exact ((((Blk.new' rfl).ext ((Ext.refl _).alloc _)).ext ((Ext.refl _).alloc _)).ext ((Ext.refl _).alloc _)).ext ((Ext.refl _).alloc _)
 have HB2 : Hid (Blk 155 W0 (w.heap.size + 1) [.bool s3, .slice A5 k5 c5, .slice A6 k6 c6, .bool s4, .slice A7 k7 c7, .slice A8 k8 c8]) := by show Blk _ _ _ _; rw [hW0]; exact (((Blk.new' (by simp)).ext ((Ext.refl _).alloc _)).ext ((Ext.refl _).alloc _)).ext ((Ext.refl _).alloc _)
 have HB3 : Hid (Blk 155 W0 (w.heap.size + 1 + 1) [.bool s5, .slice A9 k9 c9, .slice A10 k10 c10, .bool s6, .slice A11 k11 c11, .slice A12 k12 c12]) := by show Blk _ _ _ _; rw [hW0]; exact ((Blk.new' (by simp)).ext ((Ext.refl _).alloc _)).ext ((Ext.refl _).alloc _)
 have HB4 : Hid (Blk 155 W0 (w.heap.size + 1 + 1 + 1) [.bool s7, .slice A13 k13 c13, .slice A14 k14 c14, .bool s8, .slice A15 k15 c15, .slice A16 k16 c16]) := by show Blk _ _ _ _; rw [hW0]; exact (Blk.new' (by simp)).ext ((Ext.refl _).alloc _)
 have HR0 : Hid (Blk 155 W0 (w.heap.size + 1 + 1 + 1 + 1) [.bool false, .slice none 0 0, .slice none 0 0, .bool false, .slice none 0 0, .slice none 0 0]) := by show Blk _ _ _ _; rw [hW0]; exact Blk.new' (by simp)
 clear hW0
 obtain ⟨c0, c1, c2, c3, c4, c5⟩ := blk6c HB4.out
 obtain ⟨e0, e1, e2, e3, e4, e5⟩ := blk6c HB3.out
 go_wp2_with fail
 refine (psubI_any d c _ _ _ (HV4.out.ext HX0.out) (HV3.out.ext HX0.out) HID.out HIC.out).mono ?_
 rintro e w1 ⟨v1, rfl, hv1, he1⟩
 have HW := Lib.hid hv1
 obtain ⟨u21, u22, u23, u24, rfl, h21, h22, h23, h24⟩ := hv1
 have HA21 := Lib.hid h21; have HA22 := Lib.hid h22; have HA23 := Lib.hid h23; have HA24 := Lib.hid h24
 obtain ⟨A21, k21, c21, rfl⟩ := h21.form
 obtain ⟨A22, k22, c22, rfl⟩ := h22.form
 obtain ⟨A23, k23, c23, rfl⟩ := h23.form
 obtain ⟨A24, k24, c24, rfl⟩ := h24.form
 clear h21 h22 h23 h24
 obtain ⟨s11, hs⟩ : ∃ b_, b_ = negI ((d.1 - c.1 : Int) : Rat).num := ⟨_, rfl⟩
 rw [← hs] at HW ⊢
 have HE21 := Lib.hid hs
 clear hs
 obtain ⟨s12, hs⟩ : ∃ b_, b_ = negI ((d.2 - c.2 : Int) : Rat).num := ⟨_, rfl⟩
 rw [← hs] at HW ⊢
 have HE22 := Lib.hid hs
 clear hs
 clear c0 c1 c2 c3 c4 c5 e0 e1 e2 e3 e4 e5
 have HE1 := Lib.hid he1
 clear he1
 go_upto_region 2 with fail
 refine wp_at fun W2 hW2 => ?_
 have he2 : Ext w1 W2 := by rw [hW2]; exact (Ext.refl _).alloc _
 have HBN : Hid (Blk 155 W2 w1.heap.size [.bool s11, .slice A21 k21 c21, .slice A22 k22 c22, .bool s12, .slice A23 k23 c23, .slice A24 k24 c24]) := by show Blk _ _ _ _; rw [hW2]; exact Blk.new' rfl
 have HX2 : Hid (Ext w W2) := HX0.out.trans (HE1.out.trans he2)
 have hx02 := HE1.out.trans he2
 have HWW := Lib.hid (HW.out.ext he2)
 have HC1 := Lib.hid (HB1.out.ext hx02); have HC2 := Lib.hid (HB2.out.ext hx02); have HC3 := Lib.hid (HB3.out.ext hx02); have HR2 := Lib.hid (HR0.out.ext hx02)
 clear hW2 he2 hx02 HB1 HB2 HB3 HB4 HR0 HX0 HE1 HW
 have HX0 := HX2
 refine region_slotsP (l := 16) (m := 1) (N := 37) (ai := 14) (si := 15) (da := 11) (W0 := W2) [17, 18, 19, 20, 21, 22, 23, 24, 25, 26, 27, 16, 28, 29, 11, 1037] [IsP (c.1 : Rat) (c.2 : Rat), IsP (a.1 : Rat) (a.2 : Rat), IsP ((c.1 - a.1 : Int) : Rat) ((c.2 - a.2 : Int) : Rat), IsP ((d.1 - c.1 : Int) : Rat) ((d.2 - c.2 : Int) : Rat), IsR ((ptA a b c d : Int) : Rat), IsP (b.1 : Rat) (b.2 : Rat), IsP (a.1 : Rat) (a.2 : Rat), IsP ((b.1 - a.1 : Int) : Rat) ((b.2 - a.2 : Int) : Rat), IsP ((d.1 - c.1 : Int) : Rat) ((d.2 - c.2 : Int) : Rat), IsR ((ptB a b c d : Int) : Rat), IsOkR (ptT a b c d), IsOkR (ptT a b c d), IsR (ptT a b c d), Fx (.bool true), IsNew 145 W2.heap.size [.bool false, .slice none 0 0, .slice none 0 0], Any] (StR W2.heap.size (ptT a b c d)) (by kernel_rfl) (by omega) (by kernel_rfl) (by kernel_rfl) (Ext.refl _) ?kp (StR.kp _ _) (fun i hi his => ?_) ?st (fun xs w1 hx hT => ?_)
 case kp => exact ⟨IsP.kp _ _, IsP.kp _ _, IsP.kp _ _, IsP.kp _ _, IsR.kp _, IsP.kp _ _, IsP.kp _ _, IsP.kp _ _, IsP.kp _ _, IsR.kp _, IsOkR.kp _, IsOkR.kp _, IsR.kp _, Fx.kp _, IsNew.kp _ _ _, Any.kp, trivial⟩
 case st =>
  refine so rfl ?_
  intro fb wi hx hb hd K hK
  have y11 : IsNew 145 W2.heap.size [.bool false, .slice none 0 0, .slice none 0 0] (fb.eval (.tmp 11)) wi := hd 14 11 rfl (by kernel_rfl)
  have y28 : IsR (ptT a b c d) (fb.eval (.tmp 28)) wi := hd 12 28 rfl (by kernel_rfl)
  obtain ⟨u, dd, x28, g1, g2⟩ := y28
  obtain ⟨Au, ku, cu, rfl⟩ := g1.form
  obtain ⟨Ad, kd, cd, rfl⟩ := g2.form
  obtain ⟨g, x11, hg, hb5⟩ := y11
  obtain ⟨c0, c1, c2⟩ := blk3c hb5
  obtain ⟨f0, f1, f2⟩ := blk3f hb5
  refine step_skipR (wanted_all rfl) (w' := ((wi.setCell ⟨g, 0, none⟩ (.bool (negI (ptT a b c d).num))).setCell ⟨g, 1, none⟩ (.slice Au ku cu)).setCell ⟨g, 2, none⟩ (.slice Ad kd cd)) (fun ρ hρ hc => ?_) (hK _ (kext hx hg (ks3 wi g (.bool (negI (ptT a b c d).num)) (.slice Au ku cu) (.slice Ad kd cd))) (fun j hj hja hjs => ?_) (⟨g, _, _, x11, hg, ((hb5.set 0 _).set 1 _).set 2 _, g1.other hb5 rfl (ks3 wi g (.bool (negI (ptT a b c d).num)) (.slice Au ku cu) (.slice Ad kd cd)), g2.other hb5 rfl (ks3 wi g (.bool (negI (ptT a b c d).num)) (.slice Au ku cu) (.slice Ad kd cd))⟩))
  ·have r11 := (hρ (.tmp 11)).trans x11; have r28 := (hρ (.tmp 28)).trans x28
   simp [execOp, go_sem, r11, r28, c0, c1, c2, f0, f1, f2]
  ·match j, hj with
   |0, _ => exact fun v_ (h : IsP (c.1 : Rat) (c.2 : Rat) v_ wi) => (show IsP (c.1 : Rat) (c.2 : Rat) v_ _ from IsP.oth hb5 rfl (ks3 wi g (.bool (negI (ptT a b c d).num)) (.slice Au ku cu) (.slice Ad kd cd)) h)
   |1, _ => exact fun v_ (h : IsP (a.1 : Rat) (a.2 : Rat) v_ wi) => (show IsP (a.1 : Rat) (a.2 : Rat) v_ _ from IsP.oth hb5 rfl (ks3 wi g (.bool (negI (ptT a b c d).num)) (.slice Au ku cu) (.slice Ad kd cd)) h)
   |2, _ => exact fun v_ (h : IsP ((c.1 - a.1 : Int) : Rat) ((c.2 - a.2 : Int) : Rat) v_ wi) => (show IsP ((c.1 - a.1 : Int) : Rat) ((c.2 - a.2 : Int) : Rat) v_ _ from IsP.oth hb5 rfl (ks3 wi g (.bool (negI (ptT a b c d).num)) (.slice Au ku cu) (.slice Ad kd cd)) h)
   |3, _ => exact fun v_ (h : IsP ((d.1 - c.1 : Int) : Rat) ((d.2 - c.2 : Int) : Rat) v_ wi) => (show IsP ((d.1 - c.1 : Int) : Rat) ((d.2 - c.2 : Int) : Rat) v_ _ from IsP.oth hb5 rfl (ks3 wi g (.bool (negI (ptT a b c d).num)) (.slice Au ku cu) (.slice Ad kd cd)) h)
   |4, _ => exact fun v_ (h : IsR ((ptA a b c d : Int) : Rat) v_ wi) => (show IsR ((ptA a b c d : Int) : Rat) v_ _ from IsR.oth hb5 rfl (ks3 wi g (.bool (negI (ptT a b c d).num)) (.slice Au ku cu) (.slice Ad kd cd)) h)
   |5, _ => exact fun v_ (h : IsP (b.1 : Rat) (b.2 : Rat) v_ wi) => (show IsP (b.1 : Rat) (b.2 : Rat) v_ _ from IsP.oth hb5 rfl (ks3 wi g (.bool (negI (ptT a b c d).num)) (.slice Au ku cu) (.slice Ad kd cd)) h)
   |6, _ => exact fun v_ (h : IsP (a.1 : Rat) (a.2 : Rat) v_ wi) => (show IsP (a.1 : Rat) (a.2 : Rat) v_ _ from IsP.oth hb5 rfl (ks3 wi g (.bool (negI (ptT a b c d).num)) (.slice Au ku cu) (.slice Ad kd cd)) h)
   |7, _ => exact fun v_ (h : IsP ((b.1 - a.1 : Int) : Rat) ((b.2 - a.2 : Int) : Rat) v_ wi) => (show IsP ((b.1 - a.1 : Int) : Rat) ((b.2 - a.2 : Int) : Rat) v_ _ from IsP.oth hb5 rfl (ks3 wi g (.bool (negI (ptT a b c d).num)) (.slice Au ku cu) (.slice Ad kd cd)) h)
   |8, _ => exact fun v_ (h : IsP ((d.1 - c.1 : Int) : Rat) ((d.2 - c.2 : Int) : Rat) v_ wi) => (show IsP ((d.1 - c.1 : Int) : Rat) ((d.2 - c.2 : Int) : Rat) v_ _ from IsP.oth hb5 rfl (ks3 wi g (.bool (negI (ptT a b c d).num)) (.slice Au ku cu) (.slice Ad kd cd)) h)
   |9, _ => exact fun v_ (h : IsR ((ptB a b c d : Int) : Rat) v_ wi) => (show IsR ((ptB a b c d : Int) : Rat) v_ _ from IsR.oth hb5 rfl (ks3 wi g (.bool (negI (ptT a b c d).num)) (.slice Au ku cu) (.slice Ad kd cd)) h)
   |10, _ => exact fun v_ (h : IsOkR (ptT a b c d) v_ wi) => (show IsOkR (ptT a b c d) v_ _ from IsOkR.oth hb5 rfl (ks3 wi g (.bool (negI (ptT a b c d).num)) (.slice Au ku cu) (.slice Ad kd cd)) h)
   |11, _ => exact fun v_ (h : IsOkR (ptT a b c d) v_ wi) => (show IsOkR (ptT a b c d) v_ _ from IsOkR.oth hb5 rfl (ks3 wi g (.bool (negI (ptT a b c d).num)) (.slice Au ku cu) (.slice Ad kd cd)) h)
   |12, _ => exact fun v_ (h : IsR (ptT a b c d) v_ wi) => (show IsR (ptT a b c d) v_ _ from IsR.oth hb5 rfl (ks3 wi g (.bool (negI (ptT a b c d).num)) (.slice Au ku cu) (.slice Ad kd cd)) h)
   |13, _ => exact fun v_ (h : v_ = (.bool true)) => (show v_ = (.bool true) from h)
   |14, _ => exact absurd rfl hja
   |15, _ => exact absurd rfl hjs
   |n + 16, hn => exact absurd hn (by omega)
 ·match i, hi with
  |0, _ =>
   refine so rfl ?_
   intro fb wi hx hb hd K hK
   have x6 : fb.eval (.tmp 6) = .pointer (some ⟨w.heap.size + 1 + 1, 0, none⟩) := hb 6 (by kernel_rfl)
   have cf0 := (HC3.out.ext hx).cell 0
   have cf1 := (HC3.out.ext hx).cell 1
   have cf2 := (HC3.out.ext hx).cell 2
   have cf3 := (HC3.out.ext hx).cell 3
   have cf4 := (HC3.out.ext hx).cell 4
   have cf5 := (HC3.out.ext hx).cell 5
   simp only [List.getElem?_cons_zero, List.getElem?_cons_succ] at cf0 cf1 cf2 cf3 cf4 cf5
   refine step_valR (wanted_all rfl) (v := .agg #[.bool s5, .slice A9 k9 c9, .slice A10 k10 c10, .bool s6, .slice A11 k11 c11, .slice A12 k12 c12]) (w' := wi) (fun ρ hρ hc => ?_) (hK _ _ (Ext.refl _) (HV3.out.ext (HX0.out.trans hx)))
   have r6 := (hρ (.tmp 6)).trans x6
   simp [execOp, go_sem, r6, cf0, cf1, cf2, cf3, cf4, cf5]
  |1, _ =>
   refine so rfl ?_
   intro fb wi hx hb hd K hK
   have x4 : fb.eval (.tmp 4) = .pointer (some ⟨w.heap.size, 0, none⟩) := hb 4 (by kernel_rfl)
   have cf0 := (HC1.out.ext hx).cell 0
   have cf1 := (HC1.out.ext hx).cell 1
   have cf2 := (HC1.out.ext hx).cell 2
   have cf3 := (HC1.out.ext hx).cell 3
   have cf4 := (HC1.out.ext hx).cell 4
   have cf5 := (HC1.out.ext hx).cell 5
   simp only [List.getElem?_cons_zero, List.getElem?_cons_succ] at cf0 cf1 cf2 cf3 cf4 cf5
   refine step_valR (wanted_all rfl) (v := .agg #[.bool s1, .slice A1 k1 c1, .slice A2 k2 c2, .bool s2, .slice A3 k3 c3, .slice A4 k4 c4]) (w' := wi) (fun ρ hρ hc => ?_) (hK _ _ (Ext.refl _) (HV1.out.ext (HX0.out.trans hx)))
   have r4 := (hρ (.tmp 4)).trans x4
   simp [execOp, go_sem, r4, cf0, cf1, cf2, cf3, cf4, cf5]
  |2, _ =>
   refine so rfl ?_
   intro fb wi hx hb hd K hK
   have y17 : IsP (c.1 : Rat) (c.2 : Rat) (fb.eval (.tmp 17)) wi := hd 0 17 rfl (by kernel_rfl)
   have y18 : IsP (a.1 : Rat) (a.2 : Rat) (fb.eval (.tmp 18)) wi := hd 1 18 rfl (by kernel_rfl)
   refine step_callW (wanted_all rfl) 87 [.tmp 17, .tmp 18] #[155, 155] rfl _ Tryz.func87 rfl (by decide +kernel) [fb.eval (.tmp 17), fb.eval (.tmp 18)] rfl (psubI_any c a _ _ wi y17 y18 HIC.out HIA.out) (fun e w' h => ?_)
   obtain ⟨v, rfl, hv, hx'⟩ := h
   exact ⟨_, rfl, hK _ _ hx' hv⟩
  |3, _ =>
   refine so rfl ?_
   intro fb wi hx hb hd K hK
   have x10 : fb.eval (.tmp 10) = .pointer (some ⟨w1.heap.size, 0, none⟩) := hb 10 (by kernel_rfl)
   have cf0 := (HBN.out.ext hx).cell 0
   have cf1 := (HBN.out.ext hx).cell 1
   have cf2 := (HBN.out.ext hx).cell 2
   have cf3 := (HBN.out.ext hx).cell 3
   have cf4 := (HBN.out.ext hx).cell 4
   have cf5 := (HBN.out.ext hx).cell 5
   simp only [List.getElem?_cons_zero, List.getElem?_cons_succ] at cf0 cf1 cf2 cf3 cf4 cf5
   refine step_valR (wanted_all rfl) (v := .agg #[.bool s11, .slice A21 k21 c21, .slice A22 k22 c22, .bool s12, .slice A23 k23 c23, .slice A24 k24 c24]) (w' := wi) (fun ρ hρ hc => ?_) (hK _ _ (Ext.refl _) (HWW.out.ext hx))
   have r10 := (hρ (.tmp 10)).trans x10
   simp [execOp, go_sem, r10, cf0, cf1, cf2, cf3, cf4, cf5]
  |4, _ =>
   refine so rfl ?_
   intro fb wi hx hb hd K hK
   have y19 : IsP ((c.1 - a.1 : Int) : Rat) ((c.2 - a.2 : Int) : Rat) (fb.eval (.tmp 19)) wi := hd 2 19 rfl (by kernel_rfl)
   have y20 : IsP ((d.1 - c.1 : Int) : Rat) ((d.2 - c.2 : Int) : Rat) (fb.eval (.tmp 20)) wi := hd 3 20 rfl (by kernel_rfl)
   refine step_callW (wanted_all rfl) 107 [.tmp 19, .tmp 20] #[155, 155] rfl _ Tryz.func107 rfl (by decide +kernel) [fb.eval (.tmp 19), fb.eval (.tmp 20)] rfl (pcrossI_any _ _ _ _ _ _ wi y19 y20 (abs_sub HIC.out.1 HIA.out.1) (abs_sub HIC.out.2 HIA.out.2) (abs_sub HID.out.1 HIC.out.1) (abs_sub HID.out.2 HIC.out.2)) (fun e w' h => ?_)
   obtain ⟨v, rfl, hv, hx'⟩ := h
   exact ⟨_, rfl, hK _ _ hx' hv⟩
  |5, _ =>
   refine so rfl ?_
   intro fb wi hx hb hd K hK
   have x5 : fb.eval (.tmp 5) = .pointer (some ⟨w.heap.size + 1, 0, none⟩) := hb 5 (by kernel_rfl)
   have cf0 := (HC2.out.ext hx).cell 0
   have cf1 := (HC2.out.ext hx).cell 1
   have cf2 := (HC2.out.ext hx).cell 2
   have cf3 := (HC2.out.ext hx).cell 3
   have cf4 := (HC2.out.ext hx).cell 4
   have cf5 := (HC2.out.ext hx).cell 5
   simp only [List.getElem?_cons_zero, List.getElem?_cons_succ] at cf0 cf1 cf2 cf3 cf4 cf5
   refine step_valR (wanted_all rfl) (v := .agg #[.bool s3, .slice A5 k5 c5, .slice A6 k6 c6, .bool s4, .slice A7 k7 c7, .slice A8 k8 c8]) (w' := wi) (fun ρ hρ hc => ?_) (hK _ _ (Ext.refl _) (HV2.out.ext (HX0.out.trans hx)))
   have r5 := (hρ (.tmp 5)).trans x5
   simp [execOp, go_sem, r5, cf0, cf1, cf2, cf3, cf4, cf5]
  |6, _ =>
   refine so rfl ?_
   intro fb wi hx hb hd K hK
   have x4 : fb.eval (.tmp 4) = .pointer (some ⟨w.heap.size, 0, none⟩) := hb 4 (by kernel_rfl)
   have cf0 := (HC1.out.ext hx).cell 0
   have cf1 := (HC1.out.ext hx).cell 1
   have cf2 := (HC1.out.ext hx).cell 2
   have cf3 := (HC1.out.ext hx).cell 3
   have cf4 := (HC1.out.ext hx).cell 4
   have cf5 := (HC1.out.ext hx).cell 5
   simp only [List.getElem?_cons_zero, List.getElem?_cons_succ] at cf0 cf1 cf2 cf3 cf4 cf5
   refine step_valR (wanted_all rfl) (v := .agg #[.bool s1, .slice A1 k1 c1, .slice A2 k2 c2, .bool s2, .slice A3 k3 c3, .slice A4 k4 c4]) (w' := wi) (fun ρ hρ hc => ?_) (hK _ _ (Ext.refl _) (HV1.out.ext (HX0.out.trans hx)))
   have r4 := (hρ (.tmp 4)).trans x4
   simp [execOp, go_sem, r4, cf0, cf1, cf2, cf3, cf4, cf5]
  |7, _ =>
   refine so rfl ?_
   intro fb wi hx hb hd K hK
   have y22 : IsP (b.1 : Rat) (b.2 : Rat) (fb.eval (.tmp 22)) wi := hd 5 22 rfl (by kernel_rfl)
   have y23 : IsP (a.1 : Rat) (a.2 : Rat) (fb.eval (.tmp 23)) wi := hd 6 23 rfl (by kernel_rfl)
   refine step_callW (wanted_all rfl) 87 [.tmp 22, .tmp 23] #[155, 155] rfl _ Tryz.func87 rfl (by decide +kernel) [fb.eval (.tmp 22), fb.eval (.tmp 23)] rfl (psubI_any b a _ _ wi y22 y23 HIB.out HIA.out) (fun e w' h => ?_)
   obtain ⟨v, rfl, hv, hx'⟩ := h
   exact ⟨_, rfl, hK _ _ hx' hv⟩
  |8, _ =>
   refine so rfl ?_
   intro fb wi hx hb hd K hK
   have x10 : fb.eval (.tmp 10) = .pointer (some ⟨w1.heap.size, 0, none⟩) := hb 10 (by kernel_rfl)
   have cf0 := (HBN.out.ext hx).cell 0
   have cf1 := (HBN.out.ext hx).cell 1
   have cf2 := (HBN.out.ext hx).cell 2
   have cf3 := (HBN.out.ext hx).cell 3
   have cf4 := (HBN.out.ext hx).cell 4
   have cf5 := (HBN.out.ext hx).cell 5
   simp only [List.getElem?_cons_zero, List.getElem?_cons_succ] at cf0 cf1 cf2 cf3 cf4 cf5
   refine step_valR (wanted_all rfl) (v := .agg #[.bool s11, .slice A21 k21 c21, .slice A22 k22 c22, .bool s12, .slice A23 k23 c23, .slice A24 k24 c24]) (w' := wi) (fun ρ hρ hc => ?_) (hK _ _ (Ext.refl _) (HWW.out.ext hx))
   have r10 := (hρ (.tmp 10)).trans x10
   simp [execOp, go_sem, r10, cf0, cf1, cf2, cf3, cf4, cf5]
  |9, _ =>
   refine so rfl ?_
   intro fb wi hx hb hd K hK
   have y24 : IsP ((b.1 - a.1 : Int) : Rat) ((b.2 - a.2 : Int) : Rat) (fb.eval (.tmp 24)) wi := hd 7 24 rfl (by kernel_rfl)
   have y25 : IsP ((d.1 - c.1 : Int) : Rat) ((d.2 - c.2 : Int) : Rat) (fb.eval (.tmp 25)) wi := hd 8 25 rfl (by kernel_rfl)
   refine step_callW (wanted_all rfl) 107 [.tmp 24, .tmp 25] #[155, 155] rfl _ Tryz.func107 rfl (by decide +kernel) [fb.eval (.tmp 24), fb.eval (.tmp 25)] rfl (pcrossI_any _ _ _ _ _ _ wi y24 y25 (abs_sub HIB.out.1 HIA.out.1) (abs_sub HIB.out.2 HIA.out.2) (abs_sub HID.out.1 HIC.out.1) (abs_sub HID.out.2 HIC.out.2)) (fun e w' h => ?_)
   obtain ⟨v, rfl, hv, hx'⟩ := h
   exact ⟨_, rfl, hK _ _ hx' hv⟩
  |10, _ =>
   refine so rfl ?_
   intro fb wi hx hb hd K hK
   have y21 : IsR ((ptA a b c d : Int) : Rat) (fb.eval (.tmp 21)) wi := hd 4 21 rfl (by kernel_rfl)
   have y26 : IsR ((ptB a b c d : Int) : Rat) (fb.eval (.tmp 26)) wi := hd 9 26 rfl (by kernel_rfl)
   refine step_callW (wanted_all rfl) 106 [.tmp 21, .tmp 26] #[145, 145] rfl _ Tryz.func106 rfl (by decide +kernel) [fb.eval (.tmp 21), fb.eval (.tmp 26)] rfl (rdiv_any _ _ _ _ wi y21 y26 (rbA HIA.out HIC.out HID.out) (rbB HIA.out HIB.out HIC.out HID.out) (by rw [den_int, num_int, Nat.one_mul]; exact dbB HIA.out HIB.out HIC.out HID.out) (by rw [num_int]; exact HBN0.out)) (fun e w' h => ?_)
   obtain ⟨v, rfl, hv, hx'⟩ := h
   exact ⟨_, rfl, hK _ _ hx' hv⟩
  |11, _ =>
   refine so rfl ?_
   intro fb wi hx hb hd K hK
   have y27 : IsOkR (ptT a b c d) (fb.eval (.tmp 27)) wi := hd 10 27 rfl (by kernel_rfl)
   refine step_valR (wanted_all rfl) (v := fb.eval (.tmp 27)) (w' := wi) (fun ρ hρ hc => ?_) (hK _ _ (Ext.refl _) y27)
   simp [execOp, go_sem, hρ (.tmp 27)]
  |12, _ =>
   refine so rfl ?_
   intro fb wi hx hb hd K hK
   have y16 : IsOkR (ptT a b c d) (fb.eval (.tmp 16)) wi := hd 11 16 rfl (by kernel_rfl)
   obtain ⟨u16, x16, g16⟩ := y16
   refine step_valR (wanted_all rfl) (v := u16) (w' := wi) (fun ρ hρ hc => ?_) (hK _ _ (Ext.refl _) (g16))
   have r16 := (hρ (.tmp 16)).trans x16
   simp [execOp, go_sem, r16]
  |13, _ =>
   refine so rfl ?_
   intro fb wi hx hb hd K hK
   have y16 : IsOkR (ptT a b c d) (fb.eval (.tmp 16)) wi := hd 11 16 rfl (by kernel_rfl)
   obtain ⟨u16, x16, g16⟩ := y16
   refine step_valR (wanted_all rfl) (v := .bool true) (w' := wi) (fun ρ hρ hc => ?_) (hK _ _ (Ext.refl _) (rfl))
   have r16 := (hρ (.tmp 16)).trans x16
   simp [execOp, go_sem, r16]
  |14, _ =>
   refine so rfl ?_
   intro fb wi hx hb hd K hK
   refine step_valR (wanted_all rfl) (v := .pointer (some ⟨wi.heap.size, 0, none⟩)) (w' := wi.alloc (.cells #[.bool false, .slice none 0 0, .slice none 0 0] 145)) (fun ρ hρ hc => ?_) (hK _ _ ((Ext.refl _).alloc _) (⟨wi.heap.size, rfl, hx.size, Blk.new' rfl⟩))
   simp [execOp, go_sem]
  |15, _ =>
   exact absurd rfl his
  |n + 16, hn => exact absurd hn (by omega)
 ·skip
  have t11 : (StR W2.heap.size (ptT a b c d)) (xs 14) w1 := hT 14 (by decide) (by decide)
  have t29 : Fx (.bool true) (xs 13) w1 := hT 13 (by decide) (by decide)
  simp only [frOf, putAll, List.drop_succ_cons, List.drop_zero, List.setIfInBounds_toArray, List.set_cons_succ, List.set_cons_zero, Nat.zero_add, Nat.reduceAdd]
  obtain ⟨g5, u5, d5, q5, hg5, hb5, z1, z2⟩ := t11
  obtain ⟨A31, k31, c31, rfl⟩ := z1.form
  obtain ⟨A32, k32, c32, rfl⟩ := z2.form
  have q29 : xs 13 = .bool true := t29
  rw [q5, q29]
  have HT5 : Hid (IsR (ptT a b c d) (.agg #[.bool (negI (ptT a b c d).num), .slice A31 k31 c31, .slice A32 k32 c32]) w1) := ⟨_, _, rfl, z1, z2⟩
  obtain ⟨s13, hs⟩ : ∃ b_, b_ = negI (ptT a b c d).num := ⟨_, rfl⟩
  rw [← hs] at HT5 hb5
  have HX9 := Lib.hid (HX0.out.trans hx)
  have HD1 := Lib.hid (HC1.out.ext hx); have HD2 := Lib.hid (HC2.out.ext hx); have HDR := Lib.hid (HR2.out.ext hx)
  obtain ⟨c0, c1, c2, c3, c4, c5⟩ := blk6c HD1.out
  obtain ⟨e0, e1, e2, e3, e4, e5⟩ := blk6c HD2.out
  obtain ⟨t0, t1, t2⟩ := blk3c hb5
  clear hT t29 q29 q5 hs z1 z2 hg5 hx
  go_wp2_with fail
  refine (ponI_any a b c d _ _ _ _ (HV1.out.ext HX9.out) (HV2.out.ext HX9.out) HT5.out HIA.out HIB.out HIC.out HID.out HBN0.out).mono ?_
  rintro e w5 ⟨v5, rfl, ⟨u9, u10, u11, u12, rfl, h9, h10, h11, h12⟩, he5⟩
  have HU := Lib.hid h9; have HD := Lib.hid h10; have HU' := Lib.hid h11; have HD' := Lib.hid h12
  obtain ⟨A9, k9, c9, rfl⟩ := h9.form
  obtain ⟨A10, k10, c10, rfl⟩ := h10.form
  obtain ⟨A11, k11, c11, rfl⟩ := h11.form
  obtain ⟨A12, k12, c12, rfl⟩ := h12.form
  have HB9 := Lib.hid (HDR.out.ext he5)
  have HX10 := Lib.hid (HX9.out.trans he5)
  clear h9 h10 h11 h12 c0 c1 c2 c3 c4 c5 e0 e1 e2 e3 e4 e5 t0 t1 t2 hb5
  obtain ⟨b0, b1, b2, b3, b4, b5⟩ := blk6c HB9.out
  obtain ⟨f0, f1, f2, f3, f4, f5⟩ := blk6f HB9.out
  obtain ⟨s9, hs⟩ : ∃ b_, b_ = negI (ptX a b c d).num := ⟨_, rfl⟩
  rw [← hs]
  have HS := Lib.hid hs
  clear hs
  obtain ⟨s10, hs⟩ : ∃ b_, b_ = negI (ptY a b c d).num := ⟨_, rfl⟩
  rw [← hs]
  have HS' := Lib.hid hs
  clear hs he5
  go_wp2_with fail
  refine bodyPost_ret (v := .tuple #[.agg #[.bool s9, .slice A9 k9 c9, .slice A10 k10 c10, .bool s10, .slice A11 k11 c11, .slice A12 k12 c12], .int .i64 0]) (by simp [results, Tryz.results84, go_sem, b0, b1, b2, b3, b4, b5]) rfl ?_
  exact ⟨_, rfl, ⟨_, rfl, ⟨_, _, _, _, by rw [HS.out, HS'.out], HU.out.other HB9.out rfl (ks6 _ _ _ _ _ _ _ _), HD.out.other HB9.out rfl (ks6 _ _ _ _ _ _ _ _), HU'.out.other HB9.out rfl (ks6 _ _ _ _ _ _ _ _), HD'.out.other HB9.out rfl (ks6 _ _ _ _ _ _ _ _)⟩⟩, kext HX10.out (by omega) (ks6 _ _ _ _ _ _ _ _)⟩
theorem retFx {P : Program} {f : FuncId} {args : Array Value} {w : World} {V : Value} (h : Calls P f args w fun e w' => e = .returned V ∧ Ext w w') : Calls P f args w (Ret (Fx V) w) := h.mono fun _ _ h => ⟨V, h.1, rfl, h.2⟩
set_option maxRecDepth 100000 in
set_option maxHeartbeats 6400000 in
theorem pmeet0_any (a b c d : Int × Int) (v1 v2 v3 v4 : Value) (w : World) (h1 : IsP (a.1 : Rat) (a.2 : Rat) v1 w) (h2 : IsP (b.1 : Rat) (b.2 : Rat) v2 w) (h3 : IsP (c.1 : Rat) (c.2 : Rat) v3 w) (h4 : IsP (d.1 : Rat) (d.2 : Rat) v4 w) (ia : inC a) (ib : inC b) (ic : inC c) (id' : inC d) (hB : ptB a b c d = 0) : Calls Tryz.prog 84 #[v1, v2, v3, v4] w (fun e w' => e = .returned (.tuple #[.agg #[.bool false, .slice none 0 0, .slice none 0 0, .bool false, .slice none 0 0, .slice none 0 0], .int .i64 10]) ∧ Ext w w') := by
 have HBN0 := Lib.hid hB
 clear hB
 have HV1 := Lib.hid h1; have HV2 := Lib.hid h2; have HV3 := Lib.hid h3; have HV4 := Lib.hid h4
 have HIA := Lib.hid ia; have HIB := Lib.hid ib; have HIC := Lib.hid ic; have HID := Lib.hid id'
 clear ia ib ic id'
 obtain ⟨u1, u2, u3, u4, rfl, h1, h2, h3, h4⟩ := h1
 have HA1 := Lib.hid h1; have HA2 := Lib.hid h2; have HA3 := Lib.hid h3; have HA4 := Lib.hid h4
 obtain ⟨A1, k1, c1, rfl⟩ := h1.form
 obtain ⟨A2, k2, c2, rfl⟩ := h2.form
 obtain ⟨A3, k3, c3, rfl⟩ := h3.form
 obtain ⟨A4, k4, c4, rfl⟩ := h4.form
 clear h1 h2 h3 h4
 obtain ⟨s1, hs⟩ : ∃ b_, b_ = negI (a.1 : Rat).num := ⟨_, rfl⟩
 rw [← hs] at HV1 ⊢
 have HE1 := Lib.hid hs
 clear hs
 obtain ⟨s2, hs⟩ : ∃ b_, b_ = negI (a.2 : Rat).num := ⟨_, rfl⟩
 rw [← hs] at HV1 ⊢
 have HE2 := Lib.hid hs
 clear hs
 obtain ⟨u5, u6, u7, u8, rfl, h5, h6, h7, h8⟩ := h2
 have HA5 := Lib.hid h5; have HA6 := Lib.hid h6; have HA7 := Lib.hid h7; have HA8 := Lib.hid h8
 obtain ⟨A5, k5, c5, rfl⟩ := h5.form
 obtain ⟨A6, k6, c6, rfl⟩ := h6.form
 obtain ⟨A7, k7, c7, rfl⟩ := h7.form
 obtain ⟨A8, k8, c8, rfl⟩ := h8.form
 clear h5 h6 h7 h8
 obtain ⟨s3, hs⟩ : ∃ b_, b_ = negI (b.1 : Rat).num := ⟨_, rfl⟩
 rw [← hs] at HV2 ⊢
 have HE5 := Lib.hid hs
 clear hs
 obtain ⟨s4, hs⟩ : ∃ b_, b_ = negI (b.2 : Rat).num := ⟨_, rfl⟩
 rw [← hs] at HV2 ⊢
 have HE6 := Lib.hid hs
 clear hs
 obtain ⟨u9, u10, u11, u12, rfl, h9, h10, h11, h12⟩ := h3
 have HA9 := Lib.hid h9; have HA10 := Lib.hid h10; have HA11 := Lib.hid h11; have HA12 := Lib.hid h12
 obtain ⟨A9, k9, c9, rfl⟩ := h9.form
 obtain ⟨A10, k10, c10, rfl⟩ := h10.form
 obtain ⟨A11, k11, c11, rfl⟩ := h11.form
 obtain ⟨A12, k12, c12, rfl⟩ := h12.form
 clear h9 h10 h11 h12
 obtain ⟨s5, hs⟩ : ∃ b_, b_ = negI (c.1 : Rat).num := ⟨_, rfl⟩
 rw [← hs] at HV3 ⊢
 have HE9 := Lib.hid hs
 clear hs
 obtain ⟨s6, hs⟩ : ∃ b_, b_ = negI (c.2 : Rat).num := ⟨_, rfl⟩
 rw [← hs] at HV3 ⊢
 have HE10 := Lib.hid hs
 clear hs
 obtain ⟨u13, u14, u15, u16, rfl, h13, h14, h15, h16⟩ := h4
 have HA13 := Lib.hid h13; have HA14 := Lib.hid h14; have HA15 := Lib.hid h15; have HA16 := Lib.hid h16
 obtain ⟨A13, k13, c13, rfl⟩ := h13.form
 obtain ⟨A14, k14, c14, rfl⟩ := h14.form
 obtain ⟨A15, k15, c15, rfl⟩ := h15.form
 obtain ⟨A16, k16, c16, rfl⟩ := h16.form
 clear h13 h14 h15 h16
 obtain ⟨s7, hs⟩ : ∃ b_, b_ = negI (d.1 : Rat).num := ⟨_, rfl⟩
 rw [← hs] at HV4 ⊢
 have HE13 := Lib.hid hs
 clear hs
 obtain ⟨s8, hs⟩ : ∃ b_, b_ = negI (d.2 : Rat).num := ⟨_, rfl⟩
 rw [← hs] at HV4 ⊢
 have HE14 := Lib.hid hs
 clear hs
 go_enter Tryz.func84, Tryz.ntmps84
 go_upto_region 1 with fail
 refine wp_at fun W0 hW0 => ?_
 have HX0 : Hid (Ext w W0) := by show Ext _ _; rw [hW0]; exact (((((Ext.refl _).alloc _).alloc _).alloc _).alloc _).alloc _
 have HB1 : Hid (Blk 155 W0 (w.heap.size) [.bool s1, .slice A1 k1 c1, .slice A2 k2 c2, .bool s2, .slice A3 k3 c3, .slice A4 k4 c4]) := by show Blk _ _ _ _; rw [hW0]; exact ((((Blk.new' rfl).ext ((Ext.refl _).alloc _)).ext ((Ext.refl _).alloc _)).ext ((Ext.refl _).alloc _)).ext ((Ext.refl _).alloc _)
 have HB2 : Hid (Blk 155 W0 (w.heap.size + 1) [.bool s3, .slice A5 k5 c5, .slice A6 k6 c6, .bool s4, .slice A7 k7 c7, .slice A8 k8 c8]) := by show Blk _ _ _ _; rw [hW0]; exact (((Blk.new' (by simp)).ext ((Ext.refl _).alloc _)).ext ((Ext.refl _).alloc _)).ext ((Ext.refl _).alloc _)
 have HB3 : Hid (Blk 155 W0 (w.heap.size + 1 + 1) [.bool s5, .slice A9 k9 c9, .slice A10 k10 c10, .bool s6, .slice A11 k11 c11, .slice A12 k12 c12]) := by show Blk _ _ _ _; rw [hW0]; exact ((Blk.new' (by simp)).ext ((Ext.refl _).alloc _)).ext ((Ext.refl _).alloc _)
 have HB4 : Hid (Blk 155 W0 (w.heap.size + 1 + 1 + 1) [.bool s7, .slice A13 k13 c13, .slice A14 k14 c14, .bool s8, .slice A15 k15 c15, .slice A16 k16 c16]) := by show Blk _ _ _ _; rw [hW0]; exact (Blk.new' (by simp)).ext ((Ext.refl _).alloc _)
 have HR0 : Hid (Blk 155 W0 (w.heap.size + 1 + 1 + 1 + 1) [.bool false, .slice none 0 0, .slice none 0 0, .bool false, .slice none 0 0, .slice none 0 0]) := by show Blk _ _ _ _; rw [hW0]; exact Blk.new' (by simp)
 clear hW0
 obtain ⟨c0, c1, c2, c3, c4, c5⟩ := blk6c HB4.out
 obtain ⟨e0, e1, e2, e3, e4, e5⟩ := blk6c HB3.out
 go_wp2_with fail
 refine (psubI_any d c _ _ _ (HV4.out.ext HX0.out) (HV3.out.ext HX0.out) HID.out HIC.out).mono ?_
 rintro e w1 ⟨v1, rfl, hv1, he1⟩
 have HW := Lib.hid hv1
 obtain ⟨u21, u22, u23, u24, rfl, h21, h22, h23, h24⟩ := hv1
 have HA21 := Lib.hid h21; have HA22 := Lib.hid h22; have HA23 := Lib.hid h23; have HA24 := Lib.hid h24
 obtain ⟨A21, k21, c21, rfl⟩ := h21.form
 obtain ⟨A22, k22, c22, rfl⟩ := h22.form
 obtain ⟨A23, k23, c23, rfl⟩ := h23.form
 obtain ⟨A24, k24, c24, rfl⟩ := h24.form
 clear h21 h22 h23 h24
 obtain ⟨s11, hs⟩ : ∃ b_, b_ = negI ((d.1 - c.1 : Int) : Rat).num := ⟨_, rfl⟩
 rw [← hs] at HW ⊢
 have HE21 := Lib.hid hs
 clear hs
 obtain ⟨s12, hs⟩ : ∃ b_, b_ = negI ((d.2 - c.2 : Int) : Rat).num := ⟨_, rfl⟩
 rw [← hs] at HW ⊢
 have HE22 := Lib.hid hs
 clear hs
 clear c0 c1 c2 c3 c4 c5 e0 e1 e2 e3 e4 e5
 have HE1 := Lib.hid he1
 clear he1
 go_upto_region 2 with fail
 refine wp_at fun W2 hW2 => ?_
 have he2 : Ext w1 W2 := by rw [hW2]; exact (Ext.refl _).alloc _
 have HBN : Hid (Blk 155 W2 w1.heap.size [.bool s11, .slice A21 k21 c21, .slice A22 k22 c22, .bool s12, .slice A23 k23 c23, .slice A24 k24 c24]) := by show Blk _ _ _ _; rw [hW2]; exact Blk.new' rfl
 have HX2 : Hid (Ext w W2) := HX0.out.trans (HE1.out.trans he2)
 have hx02 := HE1.out.trans he2
 have HWW := Lib.hid (HW.out.ext he2)
 have HC1 := Lib.hid (HB1.out.ext hx02); have HC2 := Lib.hid (HB2.out.ext hx02); have HC3 := Lib.hid (HB3.out.ext hx02); have HR2 := Lib.hid (HR0.out.ext hx02)
 clear hW2 he2 hx02 HB1 HB2 HB3 HB4 HR0 HX0 HE1 HW
 have HX0 := HX2
 refine region_slotsP (l := 16) (m := 1) (N := 37) (ai := 14) (si := 15) (da := 11) (W0 := W2) [17, 18, 19, 20, 21, 22, 23, 24, 25, 26, 27, 16, 28, 29, 11, 1037] [IsP (c.1 : Rat) (c.2 : Rat), IsP (a.1 : Rat) (a.2 : Rat), IsP ((c.1 - a.1 : Int) : Rat) ((c.2 - a.2 : Int) : Rat), IsP ((d.1 - c.1 : Int) : Rat) ((d.2 - c.2 : Int) : Rat), IsR ((ptA a b c d : Int) : Rat), IsP (b.1 : Rat) (b.2 : Rat), IsP (a.1 : Rat) (a.2 : Rat), IsP ((b.1 - a.1 : Int) : Rat) ((b.2 - a.2 : Int) : Rat), IsP ((d.1 - c.1 : Int) : Rat) ((d.2 - c.2 : Int) : Rat), IsR ((ptB a b c d : Int) : Rat), Fx (.tuple #[.agg #[.bool false, .slice none 0 0, .slice none 0 0], .bool false]), Fx (.tuple #[.agg #[.bool false, .slice none 0 0, .slice none 0 0], .bool false]), Fx (.agg #[.bool false, .slice none 0 0, .slice none 0 0]), Fx (.bool false), IsNew 145 W2.heap.size [.bool false, .slice none 0 0, .slice none 0 0], Any] (IsNew 145 W2.heap.size [.bool false, .slice none 0 0, .slice none 0 0]) (by kernel_rfl) (by omega) (by kernel_rfl) (by kernel_rfl) (Ext.refl _) ?kp (IsNew.kp _ _ _) (fun i hi his => ?_) ?st (fun xs w1 hx hT => ?_)
 case kp => exact ⟨IsP.kp _ _, IsP.kp _ _, IsP.kp _ _, IsP.kp _ _, IsR.kp _, IsP.kp _ _, IsP.kp _ _, IsP.kp _ _, IsP.kp _ _, IsR.kp _, Fx.kp _, Fx.kp _, Fx.kp _, Fx.kp _, IsNew.kp _ _ _, Any.kp, trivial⟩
 case st =>
  refine so rfl ?_
  intro fb wi hx hb hd K hK
  have y11 : IsNew 145 W2.heap.size [.bool false, .slice none 0 0, .slice none 0 0] (fb.eval (.tmp 11)) wi := hd 14 11 rfl (by kernel_rfl)
  have x28 : fb.eval (.tmp 28) = .agg #[.bool false, .slice none 0 0, .slice none 0 0] := hd 12 28 rfl (by kernel_rfl)
  obtain ⟨g, x11, hg, hb5⟩ := y11
  obtain ⟨c0, c1, c2⟩ := blk3c hb5
  obtain ⟨f0, f1, f2⟩ := blk3f hb5
  refine step_skipR (wanted_all rfl) (w' := ((wi.setCell ⟨g, 0, none⟩ (.bool false)).setCell ⟨g, 1, none⟩ (.slice none 0 0)).setCell ⟨g, 2, none⟩ (.slice none 0 0)) (fun ρ hρ hc => ?_) (hK _ (kext hx hg (ks3 wi g (.bool false) (.slice none 0 0) (.slice none 0 0))) (fun j hj hja hjs => ?_) (⟨g, x11, hg, ((hb5.set 0 _).set 1 _).set 2 _⟩))
  ·have r11 := (hρ (.tmp 11)).trans x11; have r28 := (hρ (.tmp 28)).trans x28
   simp [execOp, go_sem, r11, r28, c0, c1, c2, f0, f1, f2]
  ·match j, hj with
   |0, _ => exact fun v_ (h : IsP (c.1 : Rat) (c.2 : Rat) v_ wi) => (show IsP (c.1 : Rat) (c.2 : Rat) v_ _ from IsP.oth hb5 rfl (ks3 wi g (.bool false) (.slice none 0 0) (.slice none 0 0)) h)
   |1, _ => exact fun v_ (h : IsP (a.1 : Rat) (a.2 : Rat) v_ wi) => (show IsP (a.1 : Rat) (a.2 : Rat) v_ _ from IsP.oth hb5 rfl (ks3 wi g (.bool false) (.slice none 0 0) (.slice none 0 0)) h)
   |2, _ => exact fun v_ (h : IsP ((c.1 - a.1 : Int) : Rat) ((c.2 - a.2 : Int) : Rat) v_ wi) => (show IsP ((c.1 - a.1 : Int) : Rat) ((c.2 - a.2 : Int) : Rat) v_ _ from IsP.oth hb5 rfl (ks3 wi g (.bool false) (.slice none 0 0) (.slice none 0 0)) h)
   |3, _ => exact fun v_ (h : IsP ((d.1 - c.1 : Int) : Rat) ((d.2 - c.2 : Int) : Rat) v_ wi) => (show IsP ((d.1 - c.1 : Int) : Rat) ((d.2 - c.2 : Int) : Rat) v_ _ from IsP.oth hb5 rfl (ks3 wi g (.bool false) (.slice none 0 0) (.slice none 0 0)) h)
   |4, _ => exact fun v_ (h : IsR ((ptA a b c d : Int) : Rat) v_ wi) => (show IsR ((ptA a b c d : Int) : Rat) v_ _ from IsR.oth hb5 rfl (ks3 wi g (.bool false) (.slice none 0 0) (.slice none 0 0)) h)
   |5, _ => exact fun v_ (h : IsP (b.1 : Rat) (b.2 : Rat) v_ wi) => (show IsP (b.1 : Rat) (b.2 : Rat) v_ _ from IsP.oth hb5 rfl (ks3 wi g (.bool false) (.slice none 0 0) (.slice none 0 0)) h)
   |6, _ => exact fun v_ (h : IsP (a.1 : Rat) (a.2 : Rat) v_ wi) => (show IsP (a.1 : Rat) (a.2 : Rat) v_ _ from IsP.oth hb5 rfl (ks3 wi g (.bool false) (.slice none 0 0) (.slice none 0 0)) h)
   |7, _ => exact fun v_ (h : IsP ((b.1 - a.1 : Int) : Rat) ((b.2 - a.2 : Int) : Rat) v_ wi) => (show IsP ((b.1 - a.1 : Int) : Rat) ((b.2 - a.2 : Int) : Rat) v_ _ from IsP.oth hb5 rfl (ks3 wi g (.bool false) (.slice none 0 0) (.slice none 0 0)) h)
   |8, _ => exact fun v_ (h : IsP ((d.1 - c.1 : Int) : Rat) ((d.2 - c.2 : Int) : Rat) v_ wi) => (show IsP ((d.1 - c.1 : Int) : Rat) ((d.2 - c.2 : Int) : Rat) v_ _ from IsP.oth hb5 rfl (ks3 wi g (.bool false) (.slice none 0 0) (.slice none 0 0)) h)
   |9, _ => exact fun v_ (h : IsR ((ptB a b c d : Int) : Rat) v_ wi) => (show IsR ((ptB a b c d : Int) : Rat) v_ _ from IsR.oth hb5 rfl (ks3 wi g (.bool false) (.slice none 0 0) (.slice none 0 0)) h)
   |10, _ => exact fun v_ (h : v_ = (.tuple #[.agg #[.bool false, .slice none 0 0, .slice none 0 0], .bool false])) => (show v_ = (.tuple #[.agg #[.bool false, .slice none 0 0, .slice none 0 0], .bool false]) from h)
   |11, _ => exact fun v_ (h : v_ = (.tuple #[.agg #[.bool false, .slice none 0 0, .slice none 0 0], .bool false])) => (show v_ = (.tuple #[.agg #[.bool false, .slice none 0 0, .slice none 0 0], .bool false]) from h)
   |12, _ => exact fun v_ (h : v_ = (.agg #[.bool false, .slice none 0 0, .slice none 0 0])) => (show v_ = (.agg #[.bool false, .slice none 0 0, .slice none 0 0]) from h)
   |13, _ => exact fun v_ (h : v_ = (.bool false)) => (show v_ = (.bool false) from h)
   |14, _ => exact absurd rfl hja
   |15, _ => exact absurd rfl hjs
   |n + 16, hn => exact absurd hn (by omega)
 ·match i, hi with
  |0, _ =>
   refine so rfl ?_
   intro fb wi hx hb hd K hK
   have x6 : fb.eval (.tmp 6) = .pointer (some ⟨w.heap.size + 1 + 1, 0, none⟩) := hb 6 (by kernel_rfl)
   have cf0 := (HC3.out.ext hx).cell 0
   have cf1 := (HC3.out.ext hx).cell 1
   have cf2 := (HC3.out.ext hx).cell 2
   have cf3 := (HC3.out.ext hx).cell 3
   have cf4 := (HC3.out.ext hx).cell 4
   have cf5 := (HC3.out.ext hx).cell 5
   simp only [List.getElem?_cons_zero, List.getElem?_cons_succ] at cf0 cf1 cf2 cf3 cf4 cf5
   refine step_valR (wanted_all rfl) (v := .agg #[.bool s5, .slice A9 k9 c9, .slice A10 k10 c10, .bool s6, .slice A11 k11 c11, .slice A12 k12 c12]) (w' := wi) (fun ρ hρ hc => ?_) (hK _ _ (Ext.refl _) (HV3.out.ext (HX0.out.trans hx)))
   have r6 := (hρ (.tmp 6)).trans x6
   simp [execOp, go_sem, r6, cf0, cf1, cf2, cf3, cf4, cf5]
  |1, _ =>
   refine so rfl ?_
   intro fb wi hx hb hd K hK
   have x4 : fb.eval (.tmp 4) = .pointer (some ⟨w.heap.size, 0, none⟩) := hb 4 (by kernel_rfl)
   have cf0 := (HC1.out.ext hx).cell 0
   have cf1 := (HC1.out.ext hx).cell 1
   have cf2 := (HC1.out.ext hx).cell 2
   have cf3 := (HC1.out.ext hx).cell 3
   have cf4 := (HC1.out.ext hx).cell 4
   have cf5 := (HC1.out.ext hx).cell 5
   simp only [List.getElem?_cons_zero, List.getElem?_cons_succ] at cf0 cf1 cf2 cf3 cf4 cf5
   refine step_valR (wanted_all rfl) (v := .agg #[.bool s1, .slice A1 k1 c1, .slice A2 k2 c2, .bool s2, .slice A3 k3 c3, .slice A4 k4 c4]) (w' := wi) (fun ρ hρ hc => ?_) (hK _ _ (Ext.refl _) (HV1.out.ext (HX0.out.trans hx)))
   have r4 := (hρ (.tmp 4)).trans x4
   simp [execOp, go_sem, r4, cf0, cf1, cf2, cf3, cf4, cf5]
  |2, _ =>
   refine so rfl ?_
   intro fb wi hx hb hd K hK
   have y17 : IsP (c.1 : Rat) (c.2 : Rat) (fb.eval (.tmp 17)) wi := hd 0 17 rfl (by kernel_rfl)
   have y18 : IsP (a.1 : Rat) (a.2 : Rat) (fb.eval (.tmp 18)) wi := hd 1 18 rfl (by kernel_rfl)
   refine step_callW (wanted_all rfl) 87 [.tmp 17, .tmp 18] #[155, 155] rfl _ Tryz.func87 rfl (by decide +kernel) [fb.eval (.tmp 17), fb.eval (.tmp 18)] rfl (psubI_any c a _ _ wi y17 y18 HIC.out HIA.out) (fun e w' h => ?_)
   obtain ⟨v, rfl, hv, hx'⟩ := h
   exact ⟨_, rfl, hK _ _ hx' hv⟩
  |3, _ =>
   refine so rfl ?_
   intro fb wi hx hb hd K hK
   have x10 : fb.eval (.tmp 10) = .pointer (some ⟨w1.heap.size, 0, none⟩) := hb 10 (by kernel_rfl)
   have cf0 := (HBN.out.ext hx).cell 0
   have cf1 := (HBN.out.ext hx).cell 1
   have cf2 := (HBN.out.ext hx).cell 2
   have cf3 := (HBN.out.ext hx).cell 3
   have cf4 := (HBN.out.ext hx).cell 4
   have cf5 := (HBN.out.ext hx).cell 5
   simp only [List.getElem?_cons_zero, List.getElem?_cons_succ] at cf0 cf1 cf2 cf3 cf4 cf5
   refine step_valR (wanted_all rfl) (v := .agg #[.bool s11, .slice A21 k21 c21, .slice A22 k22 c22, .bool s12, .slice A23 k23 c23, .slice A24 k24 c24]) (w' := wi) (fun ρ hρ hc => ?_) (hK _ _ (Ext.refl _) (HWW.out.ext hx))
   have r10 := (hρ (.tmp 10)).trans x10
   simp [execOp, go_sem, r10, cf0, cf1, cf2, cf3, cf4, cf5]
  |4, _ =>
   refine so rfl ?_
   intro fb wi hx hb hd K hK
   have y19 : IsP ((c.1 - a.1 : Int) : Rat) ((c.2 - a.2 : Int) : Rat) (fb.eval (.tmp 19)) wi := hd 2 19 rfl (by kernel_rfl)
   have y20 : IsP ((d.1 - c.1 : Int) : Rat) ((d.2 - c.2 : Int) : Rat) (fb.eval (.tmp 20)) wi := hd 3 20 rfl (by kernel_rfl)
   refine step_callW (wanted_all rfl) 107 [.tmp 19, .tmp 20] #[155, 155] rfl _ Tryz.func107 rfl (by decide +kernel) [fb.eval (.tmp 19), fb.eval (.tmp 20)] rfl (pcrossI_any _ _ _ _ _ _ wi y19 y20 (abs_sub HIC.out.1 HIA.out.1) (abs_sub HIC.out.2 HIA.out.2) (abs_sub HID.out.1 HIC.out.1) (abs_sub HID.out.2 HIC.out.2)) (fun e w' h => ?_)
   obtain ⟨v, rfl, hv, hx'⟩ := h
   exact ⟨_, rfl, hK _ _ hx' hv⟩
  |5, _ =>
   refine so rfl ?_
   intro fb wi hx hb hd K hK
   have x5 : fb.eval (.tmp 5) = .pointer (some ⟨w.heap.size + 1, 0, none⟩) := hb 5 (by kernel_rfl)
   have cf0 := (HC2.out.ext hx).cell 0
   have cf1 := (HC2.out.ext hx).cell 1
   have cf2 := (HC2.out.ext hx).cell 2
   have cf3 := (HC2.out.ext hx).cell 3
   have cf4 := (HC2.out.ext hx).cell 4
   have cf5 := (HC2.out.ext hx).cell 5
   simp only [List.getElem?_cons_zero, List.getElem?_cons_succ] at cf0 cf1 cf2 cf3 cf4 cf5
   refine step_valR (wanted_all rfl) (v := .agg #[.bool s3, .slice A5 k5 c5, .slice A6 k6 c6, .bool s4, .slice A7 k7 c7, .slice A8 k8 c8]) (w' := wi) (fun ρ hρ hc => ?_) (hK _ _ (Ext.refl _) (HV2.out.ext (HX0.out.trans hx)))
   have r5 := (hρ (.tmp 5)).trans x5
   simp [execOp, go_sem, r5, cf0, cf1, cf2, cf3, cf4, cf5]
  |6, _ =>
   refine so rfl ?_
   intro fb wi hx hb hd K hK
   have x4 : fb.eval (.tmp 4) = .pointer (some ⟨w.heap.size, 0, none⟩) := hb 4 (by kernel_rfl)
   have cf0 := (HC1.out.ext hx).cell 0
   have cf1 := (HC1.out.ext hx).cell 1
   have cf2 := (HC1.out.ext hx).cell 2
   have cf3 := (HC1.out.ext hx).cell 3
   have cf4 := (HC1.out.ext hx).cell 4
   have cf5 := (HC1.out.ext hx).cell 5
   simp only [List.getElem?_cons_zero, List.getElem?_cons_succ] at cf0 cf1 cf2 cf3 cf4 cf5
   refine step_valR (wanted_all rfl) (v := .agg #[.bool s1, .slice A1 k1 c1, .slice A2 k2 c2, .bool s2, .slice A3 k3 c3, .slice A4 k4 c4]) (w' := wi) (fun ρ hρ hc => ?_) (hK _ _ (Ext.refl _) (HV1.out.ext (HX0.out.trans hx)))
   have r4 := (hρ (.tmp 4)).trans x4
   simp [execOp, go_sem, r4, cf0, cf1, cf2, cf3, cf4, cf5]
  |7, _ =>
   refine so rfl ?_
   intro fb wi hx hb hd K hK
   have y22 : IsP (b.1 : Rat) (b.2 : Rat) (fb.eval (.tmp 22)) wi := hd 5 22 rfl (by kernel_rfl)
   have y23 : IsP (a.1 : Rat) (a.2 : Rat) (fb.eval (.tmp 23)) wi := hd 6 23 rfl (by kernel_rfl)
   refine step_callW (wanted_all rfl) 87 [.tmp 22, .tmp 23] #[155, 155] rfl _ Tryz.func87 rfl (by decide +kernel) [fb.eval (.tmp 22), fb.eval (.tmp 23)] rfl (psubI_any b a _ _ wi y22 y23 HIB.out HIA.out) (fun e w' h => ?_)
   obtain ⟨v, rfl, hv, hx'⟩ := h
   exact ⟨_, rfl, hK _ _ hx' hv⟩
  |8, _ =>
   refine so rfl ?_
   intro fb wi hx hb hd K hK
   have x10 : fb.eval (.tmp 10) = .pointer (some ⟨w1.heap.size, 0, none⟩) := hb 10 (by kernel_rfl)
   have cf0 := (HBN.out.ext hx).cell 0
   have cf1 := (HBN.out.ext hx).cell 1
   have cf2 := (HBN.out.ext hx).cell 2
   have cf3 := (HBN.out.ext hx).cell 3
   have cf4 := (HBN.out.ext hx).cell 4
   have cf5 := (HBN.out.ext hx).cell 5
   simp only [List.getElem?_cons_zero, List.getElem?_cons_succ] at cf0 cf1 cf2 cf3 cf4 cf5
   refine step_valR (wanted_all rfl) (v := .agg #[.bool s11, .slice A21 k21 c21, .slice A22 k22 c22, .bool s12, .slice A23 k23 c23, .slice A24 k24 c24]) (w' := wi) (fun ρ hρ hc => ?_) (hK _ _ (Ext.refl _) (HWW.out.ext hx))
   have r10 := (hρ (.tmp 10)).trans x10
   simp [execOp, go_sem, r10, cf0, cf1, cf2, cf3, cf4, cf5]
  |9, _ =>
   refine so rfl ?_
   intro fb wi hx hb hd K hK
   have y24 : IsP ((b.1 - a.1 : Int) : Rat) ((b.2 - a.2 : Int) : Rat) (fb.eval (.tmp 24)) wi := hd 7 24 rfl (by kernel_rfl)
   have y25 : IsP ((d.1 - c.1 : Int) : Rat) ((d.2 - c.2 : Int) : Rat) (fb.eval (.tmp 25)) wi := hd 8 25 rfl (by kernel_rfl)
   refine step_callW (wanted_all rfl) 107 [.tmp 24, .tmp 25] #[155, 155] rfl _ Tryz.func107 rfl (by decide +kernel) [fb.eval (.tmp 24), fb.eval (.tmp 25)] rfl (pcrossI_any _ _ _ _ _ _ wi y24 y25 (abs_sub HIB.out.1 HIA.out.1) (abs_sub HIB.out.2 HIA.out.2) (abs_sub HID.out.1 HIC.out.1) (abs_sub HID.out.2 HIC.out.2)) (fun e w' h => ?_)
   obtain ⟨v, rfl, hv, hx'⟩ := h
   exact ⟨_, rfl, hK _ _ hx' hv⟩
  |10, _ =>
   refine so rfl ?_
   intro fb wi hx hb hd K hK
   have y21 : IsR ((ptA a b c d : Int) : Rat) (fb.eval (.tmp 21)) wi := hd 4 21 rfl (by kernel_rfl)
   have y26 : IsR ((ptB a b c d : Int) : Rat) (fb.eval (.tmp 26)) wi := hd 9 26 rfl (by kernel_rfl)
   refine step_callW (wanted_all rfl) 106 [.tmp 21, .tmp 26] #[145, 145] rfl _ Tryz.func106 rfl (by decide +kernel) [fb.eval (.tmp 21), fb.eval (.tmp 26)] rfl (retFx (rdiv0_any _ _ _ _ wi y21 y26 (rbA HIA.out HIC.out HID.out) (rbB HIA.out HIB.out HIC.out HID.out) (by rw [num_int]; exact HBN0.out))) (fun e w' h => ?_)
   obtain ⟨v, rfl, hv, hx'⟩ := h
   exact ⟨_, rfl, hK _ _ hx' hv⟩
  |11, _ =>
   refine so rfl ?_
   intro fb wi hx hb hd K hK
   have y27 : Fx (.tuple #[.agg #[.bool false, .slice none 0 0, .slice none 0 0], .bool false]) (fb.eval (.tmp 27)) wi := hd 10 27 rfl (by kernel_rfl)
   refine step_valR (wanted_all rfl) (v := fb.eval (.tmp 27)) (w' := wi) (fun ρ hρ hc => ?_) (hK _ _ (Ext.refl _) y27)
   simp [execOp, go_sem, hρ (.tmp 27)]
  |12, _ =>
   refine so rfl ?_
   intro fb wi hx hb hd K hK
   have y16 : Fx (.tuple #[.agg #[.bool false, .slice none 0 0, .slice none 0 0], .bool false]) (fb.eval (.tmp 16)) wi := hd 11 16 rfl (by kernel_rfl)
   have x16 : fb.eval (.tmp 16) = .tuple #[.agg #[.bool false, .slice none 0 0, .slice none 0 0], .bool false] := y16
   refine step_valR (wanted_all rfl) (v := .agg #[.bool false, .slice none 0 0, .slice none 0 0]) (w' := wi) (fun ρ hρ hc => ?_) (hK _ _ (Ext.refl _) (rfl))
   have r16 := (hρ (.tmp 16)).trans x16
   simp [execOp, go_sem, r16]
  |13, _ =>
   refine so rfl ?_
   intro fb wi hx hb hd K hK
   have y16 : Fx (.tuple #[.agg #[.bool false, .slice none 0 0, .slice none 0 0], .bool false]) (fb.eval (.tmp 16)) wi := hd 11 16 rfl (by kernel_rfl)
   have x16 : fb.eval (.tmp 16) = .tuple #[.agg #[.bool false, .slice none 0 0, .slice none 0 0], .bool false] := y16
   refine step_valR (wanted_all rfl) (v := .bool false) (w' := wi) (fun ρ hρ hc => ?_) (hK _ _ (Ext.refl _) (rfl))
   have r16 := (hρ (.tmp 16)).trans x16
   simp [execOp, go_sem, r16]
  |14, _ =>
   refine so rfl ?_
   intro fb wi hx hb hd K hK
   refine step_valR (wanted_all rfl) (v := .pointer (some ⟨wi.heap.size, 0, none⟩)) (w' := wi.alloc (.cells #[.bool false, .slice none 0 0, .slice none 0 0] 145)) (fun ρ hρ hc => ?_) (hK _ _ ((Ext.refl _).alloc _) (⟨wi.heap.size, rfl, hx.size, Blk.new' rfl⟩))
   simp [execOp, go_sem]
  |15, _ =>
   exact absurd rfl his
  |n + 16, hn => exact absurd hn (by omega)
 ·skip
  have t11 : (IsNew 145 W2.heap.size [.bool false, .slice none 0 0, .slice none 0 0]) (xs 14) w1 := hT 14 (by decide) (by decide)
  have t29 : Fx (.bool false) (xs 13) w1 := hT 13 (by decide) (by decide)
  simp only [frOf, putAll, List.drop_succ_cons, List.drop_zero, List.setIfInBounds_toArray, List.set_cons_succ, List.set_cons_zero, Nat.zero_add, Nat.reduceAdd]
  have q29 : xs 13 = .bool false := t29
  obtain ⟨g5, q5, hg5, hb5⟩ := t11
  rw [q29, q5]
  have HX9 := Lib.hid (HX0.out.trans hx)
  have HDR := Lib.hid (HR2.out.ext hx)
  clear hT t29 q29 q5 hb5 hg5 hx
  obtain ⟨b0, b1, b2, b3, b4, b5⟩ := blk6c HDR.out
  obtain ⟨f0, f1, f2, f3, f4, f5⟩ := blk6f HDR.out
  go_wp2_with fail
  refine bodyPost_ret (v := .tuple #[.agg #[.bool false, .slice none 0 0, .slice none 0 0, .bool false, .slice none 0 0, .slice none 0 0], .int .i64 10]) (by simp [results, Tryz.results84, go_sem, b0, b1, b2, b3, b4, b5]) rfl ?_
  exact ⟨rfl, kext HX9.out (by omega) (ks6 _ _ _ _ _ _ _ _)⟩
def RetP (w : World) (es : List Edge) (e : Ending) (w' : World) : Prop :=
 ∃ v, e = .returned (.tuple #[v, .int .i64 (ocheck es)]) ∧ (ocheck es = 0 → OwnS w' w.heap.size v (verts es)) ∧ (ocheck es ≠ 0 → v = .slice none 0 0) ∧ Ext w w'
theorem polygon_any (A : Option Addr) (n c : Nat) (l : List Edge) (w : World) (ha : EdgesAt w A l) (hl : l.length = n) (hn : n ≤ c) (hc : c ≤ 9223372036854775807) :
  Calls Tryz.prog 56 #[.slice A n c] w (RetP w l) := by
 have HL := Lib.hid hl; clear hl
 have HA := Lib.hid ha; clear ha
 go_enter Tryz.func56, Tryz.ntmps56
 go_wp2_with fail
 refine (ocheck_any A n c l w HA.out HL.out hn hc).mono ?_
 rintro e w1 ⟨rfl, he1⟩
 by_cases hz : ocheck l = 0
 rotate_left
 ·have hzb : (ocheck l != 0) = true := by simp [hz]
  have HZ := Lib.hid hz; clear hz
  go_wp2_with fail
  go_ret2
  exact ⟨_, rfl, fun h => absurd h HZ.out, fun _ => rfl, he1⟩
 have HZ := Lib.hid hz
 have hzb : (ocheck l != 0) = false := by rw [hz]; rfl
 rw [hz]; clear hz hzb
 obtain ⟨h2, h16, hfe⟩ := ocheck_ok HZ.out
 rw [HL.out] at h2 h16 hfe
 have HF := Lib.hid hfe; clear hfe
 go_wp2_with fail
 refine (vertices_any A n c l _ (HA.out.ext he1) HL.out (by omega) (fun q hq => ⟨by have := lens_of HF.out hq; omega, (lens_of HF.out hq).2⟩)).mono ?_
 rintro e w2 ⟨v, rfl, hv, he2⟩
 go_wp2_with fail
 go_ret2
 refine ⟨_, by rw [HZ.out]; rfl, fun _ => OwnS.base_le hv he1.size, fun h => absurd HZ.out h, he1.trans he2⟩
def areaTo (l : List Spot) : Nat → Int
 |0 => 0
 |k + 1 => wrap64 (areaTo l k + wrap64 (wrap64 ((gS l k).1 * (gS l ((k + 1) % l.length)).2) - wrap64 ((gS l k).2 * (gS l ((k + 1) % l.length)).1)))
set_option maxHeartbeats 800000 in
theorem area_any (A : Option Addr) (n c : Nat) (l : List Spot) (w : World) (ha : SpotsAt w A l) (hl : l.length = n) (hn : n ≤ 1000) :
  Calls Tryz.prog 33 #[.slice A n c] w fun e w' => e = .returned (.int .i64 (areaTo l n)) ∧ Ext w w' := by
 have HL := Lib.hid hl; clear hl
 have HA := Lib.hid ha; clear ha
 go_enter Tryz.func33, Tryz.ntmps33
 go_wp2_with fail
 go_loopw [3, 9] (fun s i wr => ∃ k : Nat, k ≤ n ∧ i = .int .i64 k ∧ s = .int .i64 (areaTo l k) ∧ Ext w wr) (fun _ i _ => n - (intOf i).toNat)
 case atStart => exact ⟨0, Nat.zero_le _, rfl, rfl, Ext.refl _⟩
 case round =>
  obtain ⟨k, hk, rfl, rfl, hx⟩ := hrel
  by_cases hlt : k < n
  ·have hm1 : (k + 1) % n < n := Nat.mod_lt _ (by omega)
   obtain ⟨b, off, rfl, hc0, hc1⟩ := (HA.out.ext hx).g (k := k) (by rw [HL.out]; exact hlt)
   obtain ⟨hd0, hd1⟩ := (HA.out.ext hx).at1 (k := (k + 1) % n) (by rw [HL.out]; exact hm1)
   have hbl : b < wr.heap.size := cell_lt hc0
   have hbl1 : b < wr.heap.size + 1 := by omega
   obtain ⟨hj0, hj1, hj2⟩ := mod_idx k n 1 1 rfl (by omega)
   have HS : Hid (areaTo l (k + 1) = wrap64 (areaTo l k + wrap64 (wrap64 ((gS l k).1 * (gS l ((k + 1) % n)).2) - wrap64 ((gS l k).2 * (gS l ((k + 1) % n)).1)))) := by
    show areaTo l (k + 1) = _
    rw [areaTo, HL.out]
   go_wp2_with fail
   go_roundw
   case rel => exact ⟨k + 1, by omega, by go_num, by rw [HS.out], (hx.alloc _).alloc _⟩
   case measure => simp [intOf]; omega
  ·go_wp2_with fail
   go_ret
   exact ⟨ret_int (by
    obtain rfl : k = n := by omega
    rfl), hx⟩
def area2 (l : List Spot) : Int := if pcheck l ≠ 0 then 0 else areaTo l l.length
theorem pcheck_len {l : List Spot} (h : pcheck l = 0) : 3 ≤ l.length ∧ l.length ≤ 40 := by
 unfold pcheck at h
 split at h
 ·cases h
 ·split at h
  ·cases h
  ·omega
theorem area2_any (A : Option Addr) (n c : Nat) (l : List Spot) (w : World) (ha : SpotsAt w A l) (hl : l.length = n) (hn : n ≤ c) :
  Calls Tryz.prog 89 #[.slice A n c] w fun e w' => e = .returned (.int .i64 (area2 l)) ∧ Ext w w' := by
 have HL := Lib.hid hl; clear hl
 have HA := Lib.hid ha; clear ha
 go_enter Tryz.func89, Tryz.ntmps89
 go_wp2_with fail
 refine (pcheck_any A n c l w HA.out HL.out hn).mono ?_
 rintro e w1 ⟨rfl, he1⟩
 by_cases hz : pcheck l = 0
 rotate_left
 ·have hzb : (pcheck l != 0) = true := by simp [hz]
  have HZ := Lib.hid hz; clear hz
  go_wp2_with fail
  go_ret
  exact ⟨ret_int (by unfold area2; rw [if_pos HZ.out]), he1⟩
 have HZ := Lib.hid hz
 rw [hz]; clear hz
 have hlen := pcheck_len HZ.out
 rw [HL.out] at hlen
 go_wp2_with fail
 refine (area_any A n c l _ (HA.out.ext he1) HL.out (by omega)).mono ?_
 rintro e w2 ⟨rfl, he2⟩
 go_wp2_with fail
 go_ret
 exact ⟨ret_int (by unfold area2; rw [if_neg (by rw [HZ.out]; simp), HL.out]), he1.trans he2⟩
def coordB (z : Int) : Bool := decide (-1048576 ≤ z ∧ z ≤ 1048576)
theorem rndZ_len {r : Rat} (h : RB r) : (limbs (rndZ r).natAbs).length ≤ 1000 := by
 unfold rndZ
 rw [sgI_abs]
 refine Nat.le_trans (limbs_mono (Nat.div_le_self _ _)) ?_
 rw [show 2 * r.num.natAbs + r.den = r.num.natAbs + r.num.natAbs + r.den by omega]
 exact ((h.n.add h.n).add (h.d.mono (by omega))).len (by omega)
theorem coordinate_any (r : Rat) (v : Value) (w : World) (h : IsR r v w) (hb : RB r) (hd : r.den + r.den < DB) : Calls Tryz.prog 110 #[v] w fun e w' => e = .returned (.tuple #[.int .i64 (fitsV (rndZ r)), .bool (coordB (rndZ r))]) ∧ Ext w w' := by
 have HR := Lib.hid (fun W (he : Ext w W) => rrndz_any r v W (h.ext he) hb hd)
 have HS := Lib.hid (fun v W (h : IsZ (rndZ r) v W) => ismall_any (rndZ r) v W h (rndZ_len hb))
 obtain ⟨u, d, rfl, h1, h2⟩ := h
 obtain ⟨A, k, c, rfl⟩ := h1.form
 obtain ⟨A2, k2, c2, rfl⟩ := h2.form
 clear h1 h2 hb hd
 generalize negI r.num = s at *
 generalize rndZ r = z at *
 go_enter Tryz.func110, Tryz.ntmps110
 go_wp2_with fail
 refine (HR.out _ ((Ext.refl _).alloc _)).mono ?_
 rintro e w1 ⟨v1, rfl, hv1, he1⟩
 have HX1 : Hid (Ext w w1) := ((Ext.refl _).alloc _).trans he1
 have HV1 := Lib.hid hv1
 obtain ⟨u1, rfl, hu1⟩ := hv1
 obtain ⟨A3, k3, c3, rfl⟩ := hu1.form
 clear hu1 he1 HR
 go_wp2_with fail
 refine (HS.out _ _ HV1.out).mono ?_
 rintro e w2 ⟨rfl, he2⟩
 have HX2 := Lib.hid (HX1.out.trans he2)
 clear he2 HX1 HS HV1
 by_cases hs : fitsB z = true
 ·have hr := of_decide_eq_true hs
  have e1 : fitsV z = z := if_pos hr
  rw [hs, e1]
  have E1 := Lib.hid e1
  clear e1 hs
  by_cases ha : -1048576 ≤ z
  ·by_cases hb : z ≤ 1048576
   ·have hc : coordB z = true := decide_eq_true ⟨ha, hb⟩
    have HC := Lib.hid hc
    clear hc
    go_wp2_with fail
    go_ret2
    refine ⟨?_, HX2.out⟩
    rw [E1.out, HC.out]
    first
     |exact rfl
     |(rw [decide_eq_true hb]; exact rfl)
     |(rw [decide_eq_false (show ¬ z ≤ 1048576 by omega)]; exact rfl)
   ·have hc : coordB z = false := decide_eq_false (fun h => hb h.2)
    have HC := Lib.hid hc
    clear hc
    go_wp2_with fail
    go_ret2
    refine ⟨?_, HX2.out⟩
    rw [E1.out, HC.out]
    first
     |exact rfl
     |(rw [decide_eq_true hb]; exact rfl)
     |(rw [decide_eq_false (show ¬ z ≤ 1048576 by omega)]; exact rfl)
  ·have hc : coordB z = false := decide_eq_false (fun h => ha h.1)
   have HC := Lib.hid hc
   clear hc
   go_wp2_with fail
   go_ret2
   refine ⟨?_, HX2.out⟩
   rw [E1.out, HC.out]
   exact rfl
 ·have hs' : fitsB z = false := by cases h : fitsB z with | false => rfl | true => exact absurd h hs
  have hr := of_decide_eq_false hs'
  have hc : coordB z = false := decide_eq_false (by omega)
  rw [hs']
  have HC := Lib.hid hc
  clear hs hs' hc hr
  go_wp2_with fail
  go_ret2
  refine ⟨?_, HX2.out⟩
  rw [HC.out]
  exact rfl
def gridV (x y : Int) : Spot := if coordB x = true ∧ coordB y = true then (x, y) else (0, 0)
def gridE (x y : Int) : Int := if coordB x = true ∧ coordB y = true then 0 else 3
theorem coord_small {z : Int} (h : coordB z = true) : fitsV z = z := by
 have := of_decide_eq_true h
 exact if_pos (by omega)
theorem grid_any (x y : Rat) (v : Value) (w : World) (h : IsP x y v w) (hb : RB x) (hb' : RB y) (hd : x.den + x.den < DB) (hd' : y.den + y.den < DB) : Calls Tryz.prog 86 #[v] w fun e w' => e = .returned (.tuple #[SV (gridV (rndZ x) (rndZ y)), .int .i64 (gridE (rndZ x) (rndZ y))]) ∧ Ext w w' := by
 obtain ⟨u, d, u', d', rfl, h1, h2, h3, h4⟩ := h
 have HX := Lib.hid (fun W (he : Ext w W) => coordinate_any x _ W ⟨u, d, rfl, h1.ext he, h2.ext he⟩ hb hd)
 have HY := Lib.hid (fun W (he : Ext w W) => coordinate_any y _ W ⟨u', d', rfl, h3.ext he, h4.ext he⟩ hb' hd')
 obtain ⟨A, k, c, rfl⟩ := h1.form
 obtain ⟨A2, k2, c2, rfl⟩ := h2.form
 obtain ⟨A3, k3, c3, rfl⟩ := h3.form
 obtain ⟨A4, k4, c4, rfl⟩ := h4.form
 clear h1 h2 h3 h4 hb hb' hd hd'
 generalize negI x.num = s at *
 generalize negI y.num = s' at *
 generalize rndZ x = zx at *
 generalize rndZ y = zy at *
 go_enter Tryz.func86, Tryz.ntmps86
 go_wp2_with fail
 refine (HX.out _ (((Ext.refl _).alloc _).alloc _)).mono ?_
 rintro e w1 ⟨rfl, he1⟩
 have HX1 : Hid (Ext w w1) := (((Ext.refl _).alloc _).alloc _).trans he1
 have HB1 : Hid (Blk 155 w1 w.heap.size [.bool s, .slice A k c, .slice A2 k2 c2, .bool s', .slice A3 k3 c3, .slice A4 k4 c4]) := ((Blk.new' rfl).ext ((Ext.refl _).alloc _)).ext he1
 have HR1 : Hid (Blk 49 w1 (w.heap.size + 1) [.int .i64 0, .int .i64 0]) := (Blk.new' (by simp)).ext he1
 obtain ⟨b0, b1, b2, b3, b4, b5⟩ := blk6c HB1.out
 clear he1 HX
 go_wp2_with fail
 refine (HY.out _ HX1.out).mono ?_
 rintro e w2 ⟨rfl, he2⟩
 have HX2 := Lib.hid (HX1.out.trans he2)
 have HR2 := Lib.hid (HR1.out.ext he2)
 clear he2 HX1 HY b0 b1 b2 b3 b4 b5 HB1 HR1
 have d0 := HR2.out.cell 0; have d1 := HR2.out.cell 1
 have f0 := HR2.out.frozen 0; have f1 := HR2.out.frozen 1
 simp only [List.getElem?_cons_succ, List.getElem?_cons_zero] at d0 d1
 cases hcx : coordB zx
 ·have e1 : gridV zx zy = (0, 0) := if_neg (by rw [hcx]; simp)
  have e2 : gridE zx zy = 3 := if_neg (by rw [hcx]; simp)
  have HV := Lib.hid e1; have HE := Lib.hid e2
  clear e1 e2 hcx
  obtain ⟨mx, hmx⟩ : ∃ m, m = fitsV zx := ⟨_, rfl⟩
  obtain ⟨my, hmy⟩ : ∃ m, m = fitsV zy := ⟨_, rfl⟩
  obtain ⟨by', hby⟩ : ∃ m, m = coordB zy := ⟨_, rfl⟩
  rw [← hmx, ← hmy, ← hby]
  clear hmx hmy hby
  go_wp2_with fail
  refine bodyPost_ret (v := .tuple #[SV (0, 0), .int .i64 3]) (by simp [results, Tryz.results86, go_sem, d0, d1, SV]) rfl ?_
  exact ⟨by rw [HV.out, HE.out], kext HX2.out (Nat.le_succ _) (ks2 _ _ _ _)⟩
 ·cases hcy : coordB zy
  ·have e1 : gridV zx zy = (0, 0) := if_neg (by rw [hcy]; simp)
   have e2 : gridE zx zy = 3 := if_neg (by rw [hcy]; simp)
   have HV := Lib.hid e1; have HE := Lib.hid e2
   clear e1 e2 hcx hcy
   obtain ⟨mx, hmx⟩ : ∃ m, m = fitsV zx := ⟨_, rfl⟩
   obtain ⟨my, hmy⟩ : ∃ m, m = fitsV zy := ⟨_, rfl⟩
   rw [← hmx, ← hmy]
   clear hmx hmy
   go_wp2_with fail
   refine bodyPost_ret (v := .tuple #[SV (0, 0), .int .i64 3]) (by simp [results, Tryz.results86, go_sem, d0, d1, SV]) rfl ?_
   exact ⟨by rw [HV.out, HE.out], kext HX2.out (Nat.le_succ _) (ks2 _ _ _ _)⟩
  ·have e1 : gridV zx zy = (zx, zy) := if_pos ⟨hcx, hcy⟩
   have e2 : gridE zx zy = 0 := if_pos ⟨hcx, hcy⟩
   have HV := Lib.hid e1; have HE := Lib.hid e2
   rw [coord_small hcx, coord_small hcy]
   clear e1 e2 hcx hcy
   go_wp2_with fail
   refine bodyPost_ret (v := .tuple #[SV (zx, zy), .int .i64 0]) (by simp [results, Tryz.results86, go_sem, d0, d1, SV]) rfl ?_
   exact ⟨by rw [HV.out, HE.out], kext HX2.out (Nat.le_succ _) (ks2 _ _ _ _)⟩
theorem exact_any (s : Spot) (w : World) (hx : -9223372036854775808 ≤ s.1 ∧ s.1 ≤ 9223372036854775807) (hy : -9223372036854775808 ≤ s.2 ∧ s.2 ≤ 9223372036854775807) : Calls Tryz.prog 85 #[SV s] w (Ret (IsP (s.1 : Rat) (s.2 : Rat)) w) := by
 obtain ⟨x, y⟩ := s
 simp only at hx hy
 have HP := Lib.hid (fun W => pof_any x y W hx hy)
 clear hx hy
 simp only [SV]
 generalize (x : Rat) = X at *
 generalize (y : Rat) = Y at *
 go_enter Tryz.func85, Tryz.ntmps85
 go_wp2_with fail
 refine (HP.out _).mono ?_
 rintro e w1 ⟨v1, rfl, ⟨u9, u10, u11, u12, rfl, h9, h10, h11, h12⟩, he1⟩
 have HU := Lib.hid h9; have HD := Lib.hid h10; have HU' := Lib.hid h11; have HD' := Lib.hid h12
 obtain ⟨A9, k9, c9, rfl⟩ := h9.form
 obtain ⟨A10, k10, c10, rfl⟩ := h10.form
 obtain ⟨A11, k11, c11, rfl⟩ := h11.form
 obtain ⟨A12, k12, c12, rfl⟩ := h12.form
 have HX1 : Hid (Ext w w1) := (((Ext.refl _).alloc _).alloc _).trans he1
 have HR1 : Hid (Blk 155 w1 (w.heap.size + 1) [.bool false, .slice none 0 0, .slice none 0 0, .bool false, .slice none 0 0, .slice none 0 0]) := (Blk.new' (by simp)).ext he1
 obtain ⟨s9, hs⟩ : ∃ b_, b_ = negI X.num := ⟨_, rfl⟩
 rw [← hs]
 have HS := Lib.hid hs
 clear hs
 obtain ⟨s10, hs⟩ : ∃ b_, b_ = negI Y.num := ⟨_, rfl⟩
 rw [← hs]
 have HS' := Lib.hid hs
 clear hs h9 h10 h11 h12 he1 HP
 obtain ⟨b0, b1, b2, b3, b4, b5⟩ := blk6c HR1.out
 obtain ⟨f0, f1, f2, f3, f4, f5⟩ := blk6f HR1.out
 go_wp2_with fail
 refine bodyPost_ret (v := .agg #[.bool s9, .slice A9 k9 c9, .slice A10 k10 c10, .bool s10, .slice A11 k11 c11, .slice A12 k12 c12]) (by simp [results, Tryz.results85, go_sem, b0, b1, b2, b3, b4, b5]) rfl ?_
 exact ⟨_, rfl, ⟨_, _, _, _, by rw [HS.out, HS'.out], HU.out.other HR1.out rfl (ks6 _ _ _ _ _ _ _ _), HD.out.other HR1.out rfl (ks6 _ _ _ _ _ _ _ _), HU'.out.other HR1.out rfl (ks6 _ _ _ _ _ _ _ _), HD'.out.other HR1.out rfl (ks6 _ _ _ _ _ _ _ _)⟩, kext HX1.out (Nat.le_succ _) (ks6 _ _ _ _ _ _ _ _)⟩
def addS (a b : Spot) : Spot := (wrap64 (a.1 + b.1), wrap64 (a.2 + b.2))
theorem sum_any (a b : Spot) (w : World) : Calls Tryz.prog 58 #[SV a, SV b] w fun e w' => e = .returned (SV (addS a b)) ∧ Ext w w' := by
 obtain ⟨ax, ay⟩ := a
 obtain ⟨bx, b_y⟩ := b
 go_enter Tryz.func58, Tryz.ntmps58
 go_wp2_with fail
 refine bodyPost_ret (v := SV (addS (ax, ay) (bx, b_y))) (by simp [results, Tryz.results58, go_sem, SV, addS]) rfl ?_
 exact ⟨rfl, (((Ext.refl _).alloc _).alloc _).alloc _⟩
def inSB (s : Spot) (b : Int) : Bool := decide (-b ≤ s.1 ∧ s.1 ≤ b ∧ -b ≤ s.2 ∧ s.2 ≤ b)
theorem withinS_any (s : Spot) (b : Int) (w : World) (hb : 0 ≤ b) (hb' : b ≤ 9223372036854775807) :
  Calls Tryz.prog 60 #[SV s, .int .i64 b] w fun e w' => e = .returned (.bool (inSB s b)) ∧ Ext w w' := by
 obtain ⟨x, y⟩ := s
 have hx : Ext w (w.alloc (.cells #[.int .i64 x, .int .i64 y] 49)) := (Ext.refl _).alloc _
 have HX := Lib.hid hx
 clear hx
 by_cases h1 : -b ≤ x
 ·by_cases h2 : x ≤ b
  ·by_cases h3 : -b ≤ y
   ·by_cases h4 : y ≤ b
    ·have HV : Hid (inSB (x, y) b = true) := decide_eq_true ⟨h1, h2, h3, h4⟩
     go_enter Tryz.func60, Tryz.ntmps60
     go_wp2_with fail
     go_ret
     exact ⟨ret_bool (by rw [HV.out]), HX.out⟩
    ·have HV : Hid (inSB (x, y) b = false) := decide_eq_false (fun h => h4 h.2.2.2)
     go_enter Tryz.func60, Tryz.ntmps60
     go_wp2_with fail
     go_ret
     exact ⟨ret_bool (by rw [HV.out]), HX.out⟩
   ·have HV : Hid (inSB (x, y) b = false) := decide_eq_false (fun h => h3 h.2.2.1)
    go_enter Tryz.func60, Tryz.ntmps60
    go_wp2_with fail
    go_ret
    exact ⟨ret_bool (by rw [HV.out]), HX.out⟩
  ·have HV : Hid (inSB (x, y) b = false) := decide_eq_false (fun h => h2 h.2.1)
   go_enter Tryz.func60, Tryz.ntmps60
   go_wp2_with fail
   go_ret
   exact ⟨ret_bool (by rw [HV.out]), HX.out⟩
 ·have HV : Hid (inSB (x, y) b = false) := decide_eq_false (fun h => h1 h.1)
  go_enter Tryz.func60, Tryz.ntmps60
  go_wp2_with fail
  go_ret
  exact ⟨ret_bool (by rw [HV.out]), HX.out⟩
theorem arounded_pos (a b : Int) (w : World) (h0 : 0 ≤ a) (h1 : a ≤ 1000000000000000) (hb : 1 ≤ b) (hb' : b ≤ 1000000000000000) :
  Calls Tryz.prog 83 #[.int .i64 a, .int .i64 b] w fun e w' => e = .returned (.int .i64 ((2 * a + b) / (2 * b))) ∧ w = w' := by
 have hd : decide (a < 0) = false := by simp; omega
 have hne : (2 * b == 0) = false := by simp; omega
 go_enter Tryz.func83, Tryz.ntmps83
 go_wp2_with fail
 go_ret
 exact ⟨rfl, rfl⟩
theorem arounded_any (a b : Int) (w : World) (h0 : -1000000000000000 ≤ a) (h1 : a ≤ 1000000000000000) (hb : 1 ≤ b) (hb' : b ≤ 1000000000000000) :
  Calls Tryz.prog 83 #[.int .i64 a, .int .i64 b] w fun e w' => e = .returned (.int .i64 (rnd a b)) ∧ w = w' := by
 by_cases ha : a < 0
 ·have hq0 : 0 ≤ (2 * (-a) + b) / (2 * b) := Int.ediv_nonneg (by omega) (by omega)
  have hq1 : (2 * (-a) + b) / (2 * b) ≤ 2 * (-a) + b := Int.ediv_le_self _ (by omega)
  go_enter Tryz.func83, Tryz.ntmps83
  go_wp2_with fail
  refine (arounded_pos (-a) b _ (by omega) (by omega) hb hb').mono ?_
  rintro e w1 ⟨rfl, rfl⟩
  go_wp2_with fail
  go_ret
  exact ⟨ret_int (by unfold rnd; rw [if_pos ha]), rfl⟩
 ·exact (arounded_pos a b w (by omega) h1 hb hb').mono fun e w' ⟨he, hw⟩ => ⟨by rw [he]; exact ret_int (by unfold rnd; rw [if_neg ha]), hw⟩
theorem orient_any (A : Option Addr) (n c : Nat) (l : List Spot) (w : World) (ha : SpotsAt w A l) (hl : l.length = n) (hn : n ≤ c) :
  Calls Tryz.prog 61 #[.slice A n c] w fun e w' => e = .returned (.int .i64 (cmpI (area2 l) 0)) ∧ Ext w w' := by
 have HA := Lib.hid (area2_any A n c l w ha hl hn)
 clear ha hl hn
 go_enter Tryz.func61, Tryz.ntmps61
 go_wp2_with fail
 refine (HA.out).mono ?_
 rintro e w1 ⟨rfl, he1⟩
 go_wp2_with fail
 refine (compare_any _ _ _).mono ?_
 rintro e w2 ⟨rfl, rfl⟩
 go_wp2_with fail
 go_ret
 exact ⟨rfl, he1⟩
end Go.Proofs.YtfegbaokcbjllaaGreat
