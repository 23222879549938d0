/- ratio: zero, positive, value, reduce, Of. -/
import Derived.Lib.Mul64
import Derived.Test.YtfegbaokcbjllaaGreatKNatS
import Derived.Test.YtfegbaokcbjllaaGreatKSlotL
import Derived.Test.YtfegbaokcbjllaaGreatKWd
/- natural.short, DivMod by one limb, Gcd -/
namespace Go.Proofs.YtfegbaokcbjllaaGreat
open Go.RowKit
theorem or_limb (R X : Nat) (hR : R < 4294967296) (hX : X < 4294967296) : bits .or .u64 ((R : Int) * 4294967296) (X : Int) = ((R * 4294967296 + X : Nat) : Int) := by
 rw [show (R : Int) * 4294967296 = ((R * 4294967296 : Nat) : Int) by omega, bits_or_u64_nat _ _ (by omega) (by omega)]
 have h := Nat.two_pow_add_eq_or_of_lt (i := 32) (b := X) (by omega) R
 rw [show (2 : Nat) ^ 32 = 4294967296 from rfl] at h
 rw [Nat.mul_comm R, ← h]
set_option maxRecDepth 100000 in
set_option maxHeartbeats 1600000 in
theorem short_any (A : Option Addr) (n c d : Nat) (a : List Nat) (w : World) (ha : LimsAt w A a) (hok : LimOk a) (hl : a.length = n) (hn : n ≤ 1000) (hd0 : 0 < d) (hd : d < 4294967296) :
  Calls Tryz.prog 156 #[.slice A n c, .int .u32 (d : Int)] w fun e w' => ∃ u, e = .returned (.tuple #[u, .int .u32 ((natL a % d : Nat) : Int)]) ∧ NatAt w' u (natL a / d) ∧ Ext w w' := by
 have HA := Lib.hid ha; have HK := Lib.hid hok; have HL := Lib.hid hl
 clear ha hok hl
 have hmk := make_lims n (by omega)
 have hdz : ((d : Int) == 0) = false := by simp; omega
 go_enter Tryz.func156, Tryz.ntmps156
 go_wp2_with fail
 refine wp_at fun w1 hw1 => ?_
 have HB1 : Hid (Blk 192 w1 w.heap.size (ucells (List.replicate n 0))) := by show Blk _ _ _ _; rw [hw1]; exact Blk.new _ _ _
 have HX1 : Hid (Ext w w1) := by show Ext _ _; rw [hw1]; exact (Ext.refl _).alloc _
 clear hw1 hmk
 go_loopw [7, 8] (fun r i wr => ∃ (k R : Nat) (q : List Nat), k ≤ n ∧ i = .int .i64 ((k : Int) - 1) ∧ r = .int .u64 (R : Int) ∧ DivI a q d k R ∧ Blk 192 wr w.heap.size (ucells q) ∧ Ext w wr) (fun _ i _ => ((intOf i) + 1).toNat)
 case atStart =>
  refine ⟨n, 0, List.replicate n 0, Nat.le_refl _, by go_num, rfl, ⟨by simp [HL.out], fun x hx => by rw [List.eq_of_mem_replicate hx]; omega, ?_, hd0⟩, HB1.out, HX1.out⟩
  rw [List.drop_of_length_le (by rw [HL.out]; exact Nat.le_refl _), List.drop_of_length_le (by simp)]; simp [natL]
 case round =>
  obtain ⟨k, R, q, hk, rfl, rfl, hi, hb, hx⟩ := hrel
  have HI := Lib.hid hi; have HB := Lib.hid hb; have HX := Lib.hid hx
  have hR : R < d := hi.lt
  have HQL : Hid (q.length = n) := hi.len.trans HL.out
  clear hi hb hx
  by_cases h0 : k = 0
  ·subst h0
   have HDN := Lib.hid HI.out.done
   have hT := trim_any (some ⟨w.heap.size, 0, none⟩) n n q wr (lims_blk (R := []) (by rw [List.append_nil]; exact HB.out)) HI.out.ok HQL.out (Nat.le_refl _) (by omega)
   rw [HDN.out.1] at hT
   have HT := Lib.hid hT
   clear hT
   have hR32 : IntKind.u32.wrap (R : Int) = (R : Int) := IntWalk.u32_in _ (by omega)
   go_wp2_with fail
   refine (HT.out).mono ?_
   rintro e w2 ⟨v, rfl, hv, he2⟩
   go_wp2_with fail
   go_ret2
   refine ⟨v, ?_, hv, HX.out.trans he2⟩
   rw [← HDN.out.2]
   rfl
  ·obtain ⟨j, rfl⟩ : ∃ j, k = j + 1 := ⟨k - 1, by omega⟩
   obtain ⟨ba, oa, rfl, q0⟩ := (HA.out.ext HX.out) j (by rw [HL.out]; omega)
   have hj0 : (0 : Int) ≤ j := by omega
   have hj1 : (j : Int) < n := by omega
   have hje : ((j + 1 : Nat) : Int) - 1 = j := by omega
   have hXb := gN_lt HK.out j
   have HST := Lib.hid (HI.out.step (by rw [HL.out]; omega) hd HK.out)
   obtain ⟨X, hX⟩ : ∃ X, X = gN a j := ⟨_, rfl⟩
   rw [← hX] at q0 hXb HST
   clear hX
   rw [hje]
   have b0 : wr.cell? ⟨w.heap.size, j, none⟩ = some (.int .u32 (gN q j : Int)) := by rw [HB.out.cell, ucells_get (by rw [HQL.out]; omega)]
   have f0 := HB.out.frozen j
   have hbl : w.heap.size < wr.heap.size := HB.out.lt
   have hor := or_limb R X (by omega) hXb
   have HQ : Hid ((R * 4294967296 + X) / d < 4294967296) := by
    show _ < _
    rw [Nat.div_lt_iff_lt_mul hd0]
    have : (R + 1) * 4294967296 ≤ d * 4294967296 := Nat.mul_le_mul_right _ hR
    rw [Nat.mul_comm 4294967296 d]
    omega
   obtain ⟨T, hT⟩ : ∃ T, T = R * 4294967296 + X := ⟨_, rfl⟩
   rw [← hT] at hor HST HQ
   have HTB : Hid (T < 18446744073709551616) := by show _ < _; rw [hT]; omega
   clear hT
   obtain ⟨Q, hQ⟩ : ∃ Q, Q = T / d := ⟨_, rfl⟩
   obtain ⟨M, hM⟩ : ∃ M, M = T % d := ⟨_, rfl⟩
   have hq1 : (T : Int) / (d : Int) = (Q : Int) := by rw [hQ]; rfl
   have hq2 : (T : Int) % (d : Int) = (M : Int) := by rw [hM]; rfl
   rw [← hQ] at HQ HST
   rw [← hM] at HST
   have hQ32 := HQ.out
   have hq3 : IntKind.u64.wrap (Q : Int) = (Q : Int) := IntWalk.u64_in _ (by omega)
   have HQR := Lib.hid hq1; have HMR := Lib.hid hq2; have HWR := Lib.hid hq3
   clear hQ hM
   go_wp2_with fail
   go_roundw
   case rel =>
    refine ⟨j, M, q.set j Q, by omega, rfl, ?_, HST.out, ?_, ?_⟩
    ·first | rfl | rw [HMR.out]
    ·have h := HB.out.set j (.int .u32 (Q : Int))
     rw [ucells_set] at h
     have e : (Q : Int) % 4294967296 = (Q : Int) := by omega
     first
      |exact h
      |(rw [e]; exact h)
      |(rw [HQR.out, HWR.out, e]; exact h)
    ·exact Ext.setCell (p := ⟨w.heap.size, j, none⟩) HX.out (Nat.le_refl _) _
   case measure => simp [intOf]
def RetDv (w : World) (x y : Nat) (e : Ending) (w' : World) : Prop := ∃ q r, e = .returned (.tuple #[q, r, .bool true]) ∧ NatAt w' q (x / y) ∧ NatAt w' r (x % y) ∧ Ext w w'
set_option maxRecDepth 100000 in
set_option maxHeartbeats 1600000 in
theorem ndivmod_any (u v : Value) (x y : Nat) (w : World) (hu : NatAt w u x) (hv : NatAt w v y) (hx : (limbs x).length ≤ 1000) (hy0 : 0 < y) (hy : y < 4294967296) : Calls Tryz.prog 148 #[u, v] w (RetDv w x y) := by
 have HU := Lib.hid (fun W (he : Ext w W) => trimN_any u x W (hu.ext he))
 have HV := Lib.hid (fun W (he : Ext w W) => trimN_any v y W (hv.ext he))
 obtain ⟨A0, c0, rfl, _⟩ := hu
 obtain ⟨B0, d0, rfl, _⟩ := hv
 obtain ⟨n0, hn0⟩ : ∃ n, n = (limbs x).length := ⟨_, rfl⟩
 obtain ⟨m0, hm0⟩ : ∃ n, n = (limbs y).length := ⟨_, rfl⟩
 rw [← hn0] at HU ⊢
 rw [← hm0] at HV ⊢
 clear hn0 hm0
 go_enter Tryz.func148, Tryz.ntmps148
 go_wp2_with fail
 refine (HU.out _ (Ext.refl _)).mono ?_
 rintro e w1 ⟨u1, rfl, hu1, he1⟩
 have HU1 := Lib.hid hu1; have HX1 := Lib.hid he1
 obtain ⟨A, c, rfl, _, hca, hca'⟩ := hu1
 clear he1 HU
 go_wp2_with fail
 refine (HV.out _ HX1.out).mono ?_
 rintro e w2 ⟨v1, rfl, hv1, he2⟩
 have HV1 := Lib.hid hv1; have HX2 := Lib.hid (HX1.out.trans he2); have HU2 := Lib.hid (HU1.out.ext he2)
 obtain ⟨B, d, rfl, hB, hdb, hdb'⟩ := hv1
 clear he2 HV HU1
 rw [limbs_small hy0 hy] at hB hdb ⊢
 obtain ⟨bb, ob, hBe, b0⟩ := hB 0 (by simp)
 subst hBe
 simp only [List.length_cons, List.length_nil, Nat.zero_add, gN, List.getD_cons_zero, Nat.add_zero] at hdb b0 ⊢
 have HCM := Lib.hid (ncmp_any _ _ x y w2 HU2.out (by have h := HV1.out; rw [limbs_small hy0 hy] at h; exact h))
 have HNO := Lib.hid (fun W (he : Ext w2 W) => norm_any _ x W (HU2.out.ext he) hx)
 have HSH := Lib.hid (fun (A' : Option Addr) (n c : Nat) W (ha : LimsAt W A' (limbs x)) (hl : (limbs x).length = n) => short_any A' n c y (limbs x) W ha (limbs_ok x) hl (by omega) hy0 hy)
 rw [natL_limbs] at HSH
 obtain ⟨A', c', e1, hA, _⟩ := HU2.out
 injection e1 with e1 _ e2
 subst e1 e2
 have HA := Lib.hid hA
 have HOF := Lib.hid (fun W => nof_any (x % y) W (by have := Nat.mod_lt x hy0; omega))
 have HLX : Hid ((limbs x).length = (limbs x).length) := rfl
 clear hA
 obtain ⟨n, hn⟩ : ∃ n, n = (limbs x).length := ⟨_, rfl⟩
 have HNE := Lib.hid hn
 rw [← hn] at HCM HNO ⊢
 clear hn HLX
 go_wp2_with fail
 refine (HCM.out).mono ?_
 rintro e w3 ⟨rfl, he3⟩
 by_cases hc : x < y
 ·have e1 : cmpI (x : Int) (y : Int) = -1 := by unfold cmpI; rw [if_pos (by omega)]
  rw [e1]
  clear e1
  go_wp2_with fail
  refine (HNO.out _ he3).mono ?_
  rintro e w4 ⟨v4, rfl, hv4, he4⟩
  go_wp2_with fail
  refine bodyPost_ret (v := .tuple #[.slice none 0 0, v4, .bool true]) (by simp [results, Tryz.results148, go_sem]) rfl ?_
  refine ⟨_, v4, rfl, ?_, ?_, HX2.out.trans (he3.trans he4)⟩
  ·rw [Nat.div_eq_of_lt hc]; exact nat_nil _
  ·rw [Nat.mod_eq_of_lt hc]; exact hv4
 ·have hcm : ∃ z : Int, cmpI (x : Int) (y : Int) = z ∧ 0 ≤ z := by
   by_cases h2 : y < x
   ·exact ⟨1, by unfold cmpI; rw [if_neg (by omega), if_pos (by omega)], by omega⟩
   ·exact ⟨0, by unfold cmpI; rw [if_neg (by omega), if_neg (by omega)], by omega⟩
  obtain ⟨z, hz, hz0⟩ := hcm
  rw [hz]
  clear hz
  have hz1 : ¬ z < 0 := by omega
  have b3 := he3.cell b0
  have hM : x % y < 4294967296 := by have := Nat.mod_lt x hy0; omega
  go_wp2_with fail
  refine (HSH.out _ _ _ _ (HA.out.ext he3) HNE.out.symm).mono ?_
  rintro e w4 ⟨q, rfl, hq, he4⟩
  obtain ⟨M, hMe⟩ : ∃ M, M = x % y := ⟨_, rfl⟩
  rw [← hMe] at HOF hM ⊢
  have HME := Lib.hid hMe
  clear hMe
  have hw : IntKind.u64.wrap (M : Int) = (M : Int) := IntWalk.u64_in _ (by omega)
  go_wp2_with fail
  refine (HOF.out _).mono ?_
  rintro e w5 ⟨r, rfl, hr, he5⟩
  go_wp2_with fail
  refine bodyPost_ret (v := .tuple #[q, r, .bool true]) (by simp [results, Tryz.results148, go_sem]) rfl ?_
  refine ⟨q, r, rfl, hq.ext he5, ?_, HX2.out.trans (he3.trans (he4.trans he5))⟩
  rw [← HME.out]; exact hr
def natOf (w : World) (v : Value) : Nat := match v with
 | .slice (some a) (_ + 1) _ => (match w.cell? a with
  |some (.int _ z) => z.toNat
  |_ => 0)
 |_ => 0
theorem natOf_eq {w : World} {v : Value} {b : Nat} (h : NatAt w v b) (hb : b < 4294967296) : natOf w v = b := by
 obtain ⟨A, c, rfl, h1, _⟩ := h
 rcases Nat.eq_zero_or_pos b with h0 | h0
 ·subst h0
  rw [limbs_zero]
  cases A <;> rfl
 ·rw [limbs_small h0 hb] at h1 ⊢
  obtain ⟨bb, ob, rfl, h2⟩ := h1 0 (by simp)
  simp only [gN, List.getD_cons_zero, Nat.add_zero] at h2
  show (match w.cell? ⟨bb, ob, none⟩ with | some (.int _ z) => z.toNat | _ => 0) = b
  rw [h2]
  simp
set_option maxRecDepth 100000 in
set_option maxHeartbeats 1600000 in
theorem ngcd_any (u v : Value) (x y : Nat) (w : World) (hu : NatAt w u x) (hv : NatAt w v y) (hx : (limbs x).length ≤ 1000) (hy : y < 4294967296) : Calls Tryz.prog 147 #[u, v] w (RetNt w (Nat.gcd x y)) := by
 have HU := Lib.hid (fun W (he : Ext w W) => norm_any u x W (hu.ext he) hx)
 have HV := Lib.hid (fun W (he : Ext w W) => norm_any v y W (hv.ext he) (Nat.le_trans (limbs_lt hy) (by omega)))
 have HDM := Lib.hid ndivmod_any
 obtain ⟨A0, c0, rfl, _⟩ := hu
 obtain ⟨B0, d0, rfl, _⟩ := hv
 obtain ⟨n0, hn0⟩ : ∃ n, n = (limbs x).length := ⟨_, rfl⟩
 obtain ⟨m0, hm0⟩ : ∃ n, n = (limbs y).length := ⟨_, rfl⟩
 have hx' : (limbs x).length ≤ 1000 := hx
 rw [← hn0] at HU ⊢
 rw [← hm0] at HV ⊢
 clear hn0 hm0
 go_enter Tryz.func147, Tryz.ntmps147
 go_wp2_with fail
 refine (HU.out _ (Ext.refl _)).mono ?_
 rintro e w1 ⟨u1, rfl, hu1, he1⟩
 have HU1 := Lib.hid hu1; have HX1 := Lib.hid he1
 obtain ⟨A1, k1, c1, hf1⟩ : ∃ A k c, u1 = .slice A k c := by obtain ⟨A, c, e, _⟩ := hu1; exact ⟨A, _, c, e⟩
 subst hf1
 clear hu1 he1 HU
 go_wp2_with fail
 refine (HV.out _ HX1.out).mono ?_
 rintro e w2 ⟨v1, rfl, hv1, he2⟩
 have HV1 := Lib.hid hv1; have HX2 := Lib.hid (HX1.out.trans he2); have HU2 := Lib.hid (HU1.out.ext he2)
 obtain ⟨A2, k2, c2, hf2⟩ : ∃ A k c, v1 = .slice A k c := by obtain ⟨A, c, e, _⟩ := hv1; exact ⟨A, _, c, e⟩
 subst hf2
 clear hv1 he2 HV HU1
 go_wp2_with fail
 go_loopw [0, 1] (fun va vb wr => ∃ (a b : Nat), NatAt wr va a ∧ NatAt wr vb b ∧ b < 4294967296 ∧ (limbs a).length ≤ 1000 ∧ Nat.gcd a b = Nat.gcd x y ∧ Ext w wr) (fun _ vb wr => natOf wr vb)
 case atStart => exact ⟨x, y, HU2.out, HV1.out, hy, hx', rfl, HX2.out⟩
 case round =>
  obtain ⟨a, b, ha, hb, hbb, hal, hg, hX⟩ := hrel
  have HNA := Lib.hid ha; have HNB := Lib.hid hb; have HG := Lib.hid hg; have HX := Lib.hid hX
  have HNO := Lib.hid (natOf_eq hb hbb)
  obtain ⟨VA, ca, rfl, _⟩ := ha
  obtain ⟨VB, cb, rfl, _⟩ := hb
  clear hg hX
  rcases Nat.eq_zero_or_pos b with h0 | h0
  ·subst h0
   rw [limbs_zero] at HNB HNO ⊢
   have HGA : Hid (Nat.gcd x y = a) := by show _ = _; rw [← HG.out, Nat.gcd_zero_right]
   obtain ⟨n, hn⟩ : ∃ n, n = (limbs a).length := ⟨_, rfl⟩
   rw [← hn] at HNA ⊢
   clear hn
   go_wp2_with fail
   go_ret
   refine ⟨_, rfl, ?_, HX.out⟩
   rw [HGA.out]; exact HNA.out
  ·have HDC := Lib.hid (HDM.out _ _ a b _ HNA.out HNB.out hal h0 hbb)
   rw [limbs_small h0 hbb] at HNB HNO HDC ⊢
   simp only [List.length_cons, List.length_nil, Nat.zero_add] at HNB HNO HDC ⊢
   obtain ⟨n, hn⟩ : ∃ n, n = (limbs a).length := ⟨_, rfl⟩
   rw [← hn] at HNA HDC ⊢
   clear hn
   obtain ⟨wq, rfl⟩ : ∃ wq : World, wq = wr := ⟨_, rfl⟩
   go_wp2_with fail
   refine (HDC.out).mono ?_
   rintro e w3 ⟨q, r, rfl, hq, hr, he3⟩
   have HR := Lib.hid hr; have HX3 := Lib.hid he3
   have hm := Nat.mod_lt a h0
   have HM := Lib.hid hm
   obtain ⟨A3, k3, c3, hf3⟩ : ∃ A k c, r = .slice A k c := by obtain ⟨A, c, e, _⟩ := hr; exact ⟨A, _, c, e⟩
   subst hf3
   clear hq hr he3 hm
   go_wp2_with fail
   go_roundw
   case rel =>
    refine ⟨b, a % b, HNB.out.ext HX3.out, HR.out, by have := HM.out; omega, Nat.le_trans (limbs_lt hbb) (by omega), ?_, HX.out.trans HX3.out⟩
    rw [Nat.gcd_comm b (a % b), ← Nat.gcd_rec, Nat.gcd_comm, HG.out]
   case measure =>
    rw [natOf_eq HR.out (by have := HM.out; omega), HNO.out]; exact HM.out
set_option maxRecDepth 100000 in
set_option maxHeartbeats 1600000 in
theorem nmul_any (u v : Value) (x y : Nat) (w : World) (hu : NatAt w u x) (hv : NatAt w v y) (hx : (limbs x).length ≤ 1000) (hy : (limbs y).length ≤ 1000) : Calls Tryz.prog 129 #[u, v] w (RetNt w (x * y)) := by
 have HU := Lib.hid (fun W (he : Ext w W) => trimN_any u x W (hu.ext he))
 have HV := Lib.hid (fun W (he : Ext w W) => trimN_any v y W (hv.ext he))
 obtain ⟨A0, c0, rfl, _⟩ := hu
 obtain ⟨B0, d0, rfl, _⟩ := hv
 obtain ⟨n0, hn0⟩ : ∃ n, n = (limbs x).length := ⟨_, rfl⟩
 obtain ⟨m0, hm0⟩ : ∃ n, n = (limbs y).length := ⟨_, rfl⟩
 rw [← hn0] at HU ⊢
 rw [← hm0] at HV ⊢
 clear hn0 hm0
 go_enter Tryz.func129, Tryz.ntmps129
 go_wp2_with fail
 refine (HU.out _ (Ext.refl _)).mono ?_
 rintro e w1 ⟨u1, rfl, hu1, he1⟩
 have HU1 := Lib.hid hu1; have HX1 := Lib.hid he1
 obtain ⟨A, c, rfl, _, hca, hca'⟩ := hu1
 clear he1 HU
 go_wp2_with fail
 refine (HV.out _ HX1.out).mono ?_
 rintro e w2 ⟨v1, rfl, hv1, he2⟩
 have HV1 := Lib.hid hv1; have HX2 := Lib.hid (HX1.out.trans he2); have HU2 := Lib.hid (HU1.out.ext he2)
 obtain ⟨B, d, rfl, _, hdb, hdb'⟩ := hv1
 clear he2 HV HU1
 obtain ⟨A', c', e1, hA, _⟩ := HU2.out
 obtain ⟨B', d', e2, hB, _⟩ := HV1.out
 injection e1 with e1 _ _
 injection e2 with e2 _ _
 subst e1 e2
 have HA := Lib.hid hA; have HB := Lib.hid hB
 clear hA hB HU2 HV1
 have HXN : Hid (natL (limbs x) = x) := natL_limbs x
 have HYN : Hid (natL (limbs y) = y) := natL_limbs y
 have HXK := Lib.hid (limbs_ok x); have HYK := Lib.hid (limbs_ok y)
 obtain ⟨a, ha⟩ : ∃ a, a = limbs x := ⟨_, rfl⟩
 obtain ⟨b, hb⟩ : ∃ b, b = limbs y := ⟨_, rfl⟩
 rw [← ha] at HA HXN HXK hca hx ⊢
 rw [← hb] at HB HYN HYK hdb hy ⊢
 clear ha hb
 obtain ⟨n, hn⟩ : ∃ n, n = a.length := ⟨_, rfl⟩
 obtain ⟨m, hm⟩ : ∃ m, m = b.length := ⟨_, rfl⟩
 have HN : Hid (a.length = n) := hn.symm
 have HM : Hid (b.length = m) := hm.symm
 rw [← hn] at hca hx ⊢
 rw [← hm] at hdb hy ⊢
 clear hn hm
 have HBL := HB
 clear HB
 have hmk : ∀ W : World, (Instr.makeSlice 141 (.int .i64 ((n : Int) + (m : Int))) (.int .i64 ((n : Int) + (m : Int)))).run Tryz.prog W = .ok (.slice (some ⟨W.heap.size, 0, none⟩) (n + m) (n + m)) (W.alloc (.cells (ucells (List.replicate (n + m) 0)).toArray 192)) := fun W => by rw [show ((n : Int) + (m : Int)) = ((n + m : Nat) : Int) by omega]; exact make_lims _ (by omega) W
 go_wp2_with fail
 refine wp_at fun w3 hw3 => ?_
 have HX3 : Hid (Ext w2 w3) := by show Ext _ _; rw [hw3]; exact (Ext.refl _).alloc _
 have HR3 : Hid (Blk 192 w3 w2.heap.size (ucells (List.replicate (n + m) 0))) := by show Blk _ _ _ _; rw [hw3]; exact Blk.new _ _ _
 have HZ := Lib.hid (MulI.zero a b)
 rw [HN.out, HM.out] at HZ
 clear hw3 hmk
 obtain ⟨G, hG⟩ : ∃ G, G = w2.heap.size := ⟨_, rfl⟩
 have HGL : Hid (w2.heap.size ≤ G) := Nat.le_of_eq hG.symm
 rw [← hG] at HR3 ⊢
 clear hG
 go_loopw [23] (fun i wr => ∃ (k : Nat) (r : List Nat), k ≤ n ∧ i = .int .i64 k ∧ Blk 192 wr G (ucells r) ∧ MulI a b r k ∧ Ext w2 wr) (fun i _ => n - (intOf i).toNat)
 case atStart => exact ⟨0, _, Nat.zero_le _, rfl, HR3.out, HZ.out, HX3.out⟩
 case round =>
  obtain ⟨k, r, hk, rfl, hb, hi, hx⟩ := hrel
  have HB := Lib.hid hb; have HI := Lib.hid hi; have HX := Lib.hid hx
  have HRL : Hid (r.length = n + m) := by show _ = _; rw [hi.len, HN.out, HM.out]
  clear hb hi hx HR3 HX3 HZ
  by_cases hlt : k < n
  ·obtain ⟨ba, oa, rfl, q0⟩ := (HA.out.ext HX.out) k (by rw [HN.out]; exact hlt)
   have hk0 : (0 : Int) ≤ k := by omega
   have hk1 : (k : Int) < n := by omega
   have hXb := gN_lt HXK.out k
   obtain ⟨X, hX⟩ : ∃ X, X = gN a k := ⟨_, rfl⟩
   rw [← hX] at q0 hXb
   have HXE := Lib.hid hX
   clear hX
   go_wp2_with fail
   go_loopw [8, 30] (fun ca j wi => ∃ (p c : Nat) (r : List Nat), p ≤ m ∧ j = .int .i64 p ∧ ca = .int .u64 (c : Int) ∧ Blk 192 wi G (ucells r) ∧ MulJ a b r k p c ∧ Ext w2 wi) (fun _ j _ => m - (intOf j).toNat)
   case atStart => exact ⟨0, 0, r, Nat.zero_le _, rfl, rfl, HB.out, HI.out.inner, HX.out⟩
   case round =>
    obtain ⟨wq, rfl⟩ : ∃ wq : World, wq = wr := ⟨_, rfl⟩
    obtain ⟨p, c, r, hp, rfl, rfl, hb, hj, hx⟩ := hrel
    have HB2 := Lib.hid hb; have HJ := Lib.hid hj; have HX2' := Lib.hid hx
    have hcb : c < 4294967296 := hj.lt
    have HRL2 : Hid (r.length = n + m) := by show _ = _; rw [hj.len, HN.out, HM.out]
    clear hb hj hx
    have hgl : G < wq.heap.size := HB2.out.lt
    by_cases hpm : p < m
    ·obtain ⟨bb, ob, rfl, r0⟩ := (HBL.out.ext HX2'.out) p (by rw [HM.out]; exact hpm)
     have hp0 : (0 : Int) ≤ p := by omega
     have hp1 : (p : Int) < m := by omega
     have hYb := gN_lt HYK.out p
     have hRb := gN_lt HJ.out.ok (k + p)
     have HST := Lib.hid (HJ.out.step (by rw [HN.out]; exact hlt) (by rw [HM.out]; exact hpm) HXK.out HYK.out)
     have c0 : wq.cell? ⟨G, k + p, none⟩ = some (.int .u32 (gN r (k + p) : Int)) := by rw [HB2.out.cell, ucells_get (by rw [HRL2.out]; omega)]
     have f0 := HB2.out.frozen (k + p)
     rw [← HXE.out] at HST
     obtain ⟨Y, hY⟩ : ∃ Y, Y = gN b p := ⟨_, rfl⟩
     obtain ⟨R, hR⟩ : ∃ R, R = gN r (k + p) := ⟨_, rfl⟩
     rw [← hY] at r0 hYb HST
     rw [← hR] at c0 hRb HST
     have hbd := mul_step_bd hcb hXb hYb hRb
     obtain ⟨P, hP⟩ : ∃ P, P = X * Y := ⟨_, rfl⟩
     rw [← hP] at HST hbd
     have hPI : (X : Int) * (Y : Int) = (P : Int) := by rw [hP]; rfl
     obtain ⟨T, hT⟩ : ∃ T, T = c + P + R := ⟨_, rfl⟩
     rw [← hT] at HST hbd
     have hw0 : IntKind.u64.wrap (X : Int) = (X : Int) := IntWalk.u64_in _ (by omega)
     have hw1 : IntKind.u64.wrap (Y : Int) = (Y : Int) := IntWalk.u64_in _ (by omega)
     have hw2 : IntKind.u64.wrap (R : Int) = (R : Int) := IntWalk.u64_in _ (by omega)
     have hw3 : IntKind.u64.wrap (P : Int) = (P : Int) := IntWalk.u64_in _ (by omega)
     have hw4 : IntKind.u64.wrap ((P : Int) + (R : Int)) = (P : Int) + R := IntWalk.u64_in _ (by omega)
     have hw5 : IntKind.u64.wrap ((c : Int) + ((P : Int) + (R : Int))) = (T : Int) := by rw [IntWalk.u64_in _ (by omega)]; omega
     have hix0 : (0 : Int) ≤ (k : Int) + p := by omega
     have hix1 : (k : Int) + p < (n : Int) + m := by omega
     have hix2 : ((k : Int) + p).toNat = k + p := by omega
     clear hY hR hP hT
     have HTB := Lib.hid hbd
     go_wp2_with fail
     go_roundw
     case rel =>
      refine ⟨p + 1, T / 4294967296, r.set (k + p) (T % 4294967296), by omega, by go_num, rfl, ?_, HST.out, Ext.setCell (p := ⟨G, k + p, none⟩) HX2'.out HGL.out _⟩
      have h := HB2.out.set (k + p) (.int .u32 ((T % 4294967296 : Nat) : Int))
      rw [ucells_set] at h
      exact h
     case measure => simp [intOf]; omega
    ·obtain rfl : m = p := by omega
     have HD := Lib.hid ((show MulJ a b r k b.length c from by rw [HM.out]; exact HJ.out).done (by rw [HN.out]; exact hlt))
     rw [HM.out] at HD
     have c0 : wq.cell? ⟨G, k + m, none⟩ = some (.int .u32 (gN r (k + m) : Int)) := by rw [HB2.out.cell, ucells_get (by rw [HRL2.out]; omega)]
     have f0 := HB2.out.frozen (k + m)
     have hix0 : (0 : Int) ≤ (k : Int) + m := by omega
     have hix1 : (k : Int) + m < (n : Int) + m := by omega
     have hix2 : ((k : Int) + m).toNat = k + m := by omega
     have hwc : IntKind.u32.wrap (c : Int) = (c : Int) := IntWalk.u32_in _ (by omega)
     go_wp2_with fail
     go_roundw
     case rel =>
      refine ⟨k + 1, r.set (k + m) c, by omega, by go_num, ?_, HD.out, Ext.setCell (p := ⟨G, k + m, none⟩) HX2'.out HGL.out _⟩
      have h := HB2.out.set (k + m) (.int .u32 (c : Int))
      rw [ucells_set] at h
      have e : (c : Int) % 4294967296 = (c : Int) := by omega
      first
       |exact h
       |(rw [e]; exact h)
     case measure => simp [intOf]; omega
  ·obtain rfl : n = k := by omega
   have hdn := (show MulI a b r a.length from by rw [HN.out]; exact HI.out).done
   have hT := trim_any (some ⟨G, 0, none⟩) (n + m) (n + m) r wr (lims_blk (R := []) (by rw [List.append_nil]; exact HB.out)) HI.out.ok HRL.out (Nat.le_refl _) (by omega)
   rw [hdn, HXN.out, HYN.out] at hT
   have HT := Lib.hid hT
   clear hT hdn
   go_wp2_with fail
   refine (HT.out).mono ?_
   rintro e w5 ⟨v5, rfl, hv5, he5⟩
   go_wp2_with fail
   go_ret
   exact ⟨v5, rfl, hv5, HX2.out.trans (HX.out.trans he5)⟩
/- a sign and a size -/
def sgI (neg : Bool) (n : Nat) : Int := if neg = true then -(n : Int) else n
def negI (z : Int) : Bool := decide (z < 0)
theorem sgI_abs (neg : Bool) (n : Nat) : (sgI neg n).natAbs = n := by unfold sgI; split <;> simp
theorem negI_sgI (neg : Bool) (n : Nat) : negI (sgI neg n) = (neg && decide (0 < n)) := by
 unfold negI sgI
 cases neg
 ·simp
 ·simp only [if_true, Bool.true_and, decide_eq_decide]; omega
theorem sgI_negI (z : Int) : sgI (negI z) z.natAbs = z := by
 unfold sgI negI
 split
 ·rename_i h; have := of_decide_eq_true h; omega
 ·rename_i h; have : ¬ z < 0 := fun h' => h (decide_eq_true h'); omega
theorem sgI_neg (neg : Bool) (n : Nat) : sgI (!neg) n = - sgI neg n := by
 unfold sgI; cases neg <;> simp
theorem sgI_mul (a b : Bool) (m n : Nat) : sgI (a != b) (m * n) = sgI a m * sgI b n := by
 unfold sgI
 cases a <;> cases b <;> simp [Int.neg_mul, Int.mul_neg]
/- reduced -/
theorem mkRat_abs {z : Int} {d : Nat} (hd : d ≠ 0) : (mkRat z d).num.natAbs = z.natAbs / Nat.gcd z.natAbs d := by
 rw [show mkRat z d = Rat.normalize z d hd from (Rat.normalize_eq_mkRat hd).symm, Rat.normalize_eq]
 simp only
 rw [Int.natAbs_ediv_of_dvd (Int.ofNat_dvd_left.2 (Nat.gcd_dvd_left _ _))]
 simp
theorem mkRat_den {z : Int} {d : Nat} (hd : d ≠ 0) : (mkRat z d).den = d / Nat.gcd z.natAbs d := by
 rw [show mkRat z d = Rat.normalize z d hd from (Rat.normalize_eq_mkRat hd).symm, Rat.normalize_eq]
theorem mkRat_sgn {z : Int} {d : Nat} (hd : d ≠ 0) : negI (mkRat z d).num = negI z := by
 rw [show mkRat z d = Rat.normalize z d hd from (Rat.normalize_eq_mkRat hd).symm, Rat.normalize_eq]
 unfold negI
 simp only
 have hg : 0 < Nat.gcd z.natAbs d := Nat.gcd_pos_of_pos_right _ (by omega)
 rw [decide_eq_decide]
 constructor
 ·intro h
  rcases Int.lt_or_le z 0 with h1 | h1
  ·exact h1
  ·have := Int.ediv_nonneg h1 (show (0 : Int) ≤ (Nat.gcd z.natAbs d : Int) by omega)
   omega
 ·intro h
  obtain ⟨k, hk⟩ : ((Nat.gcd z.natAbs d : Nat) : Int) ∣ z := Int.ofNat_dvd_left.2 (Nat.gcd_dvd_left _ _)
  have hz : z / (Nat.gcd z.natAbs d : Int) = k := by
   conv => lhs; lhs; rw [hk]
   exact Int.mul_ediv_cancel_left _ (by omega)
  rw [hz]
  rcases Int.lt_or_le k 0 with h1 | h1
  ·exact h1
  ·have := Int.mul_nonneg (show (0 : Int) ≤ (Nat.gcd z.natAbs d : Int) by omega) h1
   omega
/- the operations -/
theorem rat_add (a b : Rat) : a + b = mkRat (a.num * b.den + b.num * a.den) (a.den * b.den) := by
 rw [Rat.add_def, Rat.normalize_eq_mkRat]
theorem rat_mul (a b : Rat) : a * b = mkRat (a.num * b.num) (a.den * b.den) := by
 rw [Rat.mul_def, Rat.normalize_eq_mkRat]
theorem rat_neg (a : Rat) : -a = mkRat (-a.num) a.den := by
 have h := Rat.mkRat_self (-a)
 rw [Rat.neg_num, Rat.neg_den] at h
 exact h.symm
theorem rat_div (a b : Rat) (hb : b.num ≠ 0) : a / b = mkRat (sgI (negI a.num != negI b.num) (a.num.natAbs * b.den)) (a.den * b.num.natAbs) := by
 have e1 : sgI (negI a.num != negI b.num) (a.num.natAbs * b.den) = a.num * sgI (negI b.num) b.den := by
  rw [sgI_mul, sgI_negI]
 have e2 : b⁻¹ = mkRat (sgI (negI b.num) b.den) b.num.natAbs := by
  rw [Rat.inv_def]
  unfold sgI negI
  rcases Int.lt_or_le b.num 0 with h | h
  ·rw [decide_eq_true h, if_pos rfl]
   have : b.num = -(b.num.natAbs : Int) := by omega
   conv => lhs; rw [this, Rat.divInt_neg']
   rw [Rat.divInt_ofNat]
  ·rw [decide_eq_false (by omega), if_neg (by decide)]
   have : b.num = (b.num.natAbs : Int) := by omega
   conv => lhs; rw [this]
   rw [Rat.divInt_ofNat]
 rw [e1, Rat.div_def, e2]
 conv => lhs; lhs; rw [← Rat.mkRat_self a]
 rw [Rat.mkRat_mul_mkRat]
def RetSb (w : World) (x y : Nat) (e : Ending) (w' : World) : Prop := (x < y → e = .returned (.tuple #[.slice none 0 0, .bool false]) ∧ Ext w w') ∧ (¬ x < y → ∃ u, e = .returned (.tuple #[u, .bool true]) ∧ NatAt w' u (x - y) ∧ Ext w w')
set_option maxRecDepth 100000 in
set_option maxHeartbeats 1600000 in
theorem nsub_any (u v : Value) (x y : Nat) (w : World) (hu : NatAt w u x) (hv : NatAt w v y) (hx : (limbs x).length ≤ 1000) (hy : (limbs y).length ≤ 1000) : Calls Tryz.prog 161 #[u, v] w (RetSb w x y) := by
 have HU := Lib.hid (fun W (he : Ext w W) => trimN_any u x W (hu.ext he))
 have HV := Lib.hid (fun W (he : Ext w W) => trimN_any v y W (hv.ext he))
 obtain ⟨A0, c0, rfl, _⟩ := hu
 obtain ⟨B0, d0, rfl, _⟩ := hv
 obtain ⟨n0, hn0⟩ : ∃ n, n = (limbs x).length := ⟨_, rfl⟩
 obtain ⟨m0, hm0⟩ : ∃ n, n = (limbs y).length := ⟨_, rfl⟩
 rw [← hn0] at HU ⊢
 rw [← hm0] at HV ⊢
 clear hn0 hm0
 go_enter Tryz.func161, Tryz.ntmps161
 go_wp2_with fail
 refine (HU.out _ (Ext.refl _)).mono ?_
 rintro e w1 ⟨u1, rfl, hu1, he1⟩
 have HU1 := Lib.hid hu1; have HX1 := Lib.hid he1
 obtain ⟨A, c, rfl, _, hca, hca'⟩ := hu1
 clear he1 HU
 go_wp2_with fail
 refine (HV.out _ HX1.out).mono ?_
 rintro e w2 ⟨v1, rfl, hv1, he2⟩
 have HV1 := Lib.hid hv1; have HX2 := Lib.hid (HX1.out.trans he2); have HU2 := Lib.hid (HU1.out.ext he2)
 obtain ⟨B, d, rfl, _, hdb, hdb'⟩ := hv1
 clear he2 HV HU1
 have HCM := Lib.hid (ncmp_any _ _ x y w2 HU2.out HV1.out)
 obtain ⟨A', c', e1, hA, _⟩ := HU2.out
 obtain ⟨B', d', e2, hB, _⟩ := HV1.out
 injection e1 with e1 _ e3
 injection e2 with e2 _ e4
 subst e1 e2 e3 e4
 have HA := Lib.hid hA; have HB := Lib.hid hB
 clear hA hB HU2 HV1
 have HLL : Hid ((limbs x).length < (limbs y).length → x < y) := limbs_len_lt
 have HXN : Hid (natL (limbs x) = x) := natL_limbs x
 have HYN : Hid (natL (limbs y) = y) := natL_limbs y
 have HXK := Lib.hid (limbs_ok x); have HYK := Lib.hid (limbs_ok y)
 obtain ⟨a, ha⟩ : ∃ a, a = limbs x := ⟨_, rfl⟩
 obtain ⟨b, hb⟩ : ∃ b, b = limbs y := ⟨_, rfl⟩
 rw [← ha] at HA HXN HXK hca hx HCM HLL ⊢
 rw [← hb] at HB HYN HYK hdb hy HCM HLL ⊢
 clear ha hb
 obtain ⟨n, hn⟩ : ∃ n, n = a.length := ⟨_, rfl⟩
 obtain ⟨m, hm⟩ : ∃ m, m = b.length := ⟨_, rfl⟩
 have HN : Hid (a.length = n) := hn.symm
 have HM : Hid (b.length = m) := hm.symm
 rw [← hn] at hca hx HCM HLL ⊢
 rw [← hm] at hdb hy HCM HLL ⊢
 clear hn hm
 go_wp2_with fail
 refine (HCM.out).mono ?_
 rintro e w3 ⟨rfl, he3⟩
 have HX3 := Lib.hid he3
 clear he3 HCM
 by_cases hc : x < y
 ·have e1 : cmpI (x : Int) (y : Int) = -1 := by unfold cmpI; rw [if_pos (by omega)]
  rw [e1]
  clear e1
  go_wp2_with fail
  go_ret2
  exact ⟨fun _ => ⟨rfl, HX2.out.trans HX3.out⟩, fun h => absurd hc h⟩
 have hcm : ∃ z : Int, cmpI (x : Int) (y : Int) = z ∧ 0 ≤ z := by
  by_cases h2 : y < x
  ·exact ⟨1, by unfold cmpI; rw [if_neg (by omega), if_pos (by omega)], by omega⟩
  ·exact ⟨0, by unfold cmpI; rw [if_neg (by omega), if_neg (by omega)], by omega⟩
 obtain ⟨z, hz, hz0⟩ := hcm
 rw [hz]
 clear hz
 have hz1 : ¬ z < 0 := by omega
 have HMN : Hid (m ≤ n) := by
  show m ≤ n
  rcases Nat.lt_or_ge n m with h | h
  ·exact absurd (HLL.out h) hc
  ·exact h
 have hmk := make_lims n (by omega)
 go_wp2_with fail
 refine wp_at fun w4 hw4 => ?_
 have HX4 : Hid (Ext w3 w4) := by show Ext _ _; rw [hw4]; exact (Ext.refl _).alloc _
 have HR4 : Hid (Blk 192 w4 w3.heap.size (ucells (List.replicate n 0))) := by show Blk _ _ _ _; rw [hw4]; exact Blk.new _ _ _
 clear hw4 hmk
 obtain ⟨G, hG⟩ : ∃ G, G = w3.heap.size := ⟨_, rfl⟩
 have HGL : Hid (w3.heap.size ≤ G) := Nat.le_of_eq hG.symm
 rw [← hG] at HR4 ⊢
 clear hG
 go_loopw [7, 24] (fun ca i wr => ∃ (k c : Nat) (r : List Nat), k ≤ n ∧ i = .int .i64 k ∧ ca = .int .u64 (c : Int) ∧ Blk 192 wr G (ucells r) ∧ SubI a b r n k c ∧ Ext w3 wr) (fun _ i _ => n - (intOf i).toNat)
 case atStart => exact ⟨0, 0, _, Nat.zero_le _, rfl, rfl, HR4.out, ⟨by simp, fun x hx => by rw [List.eq_of_mem_replicate hx]; omega, by simp [natL], by omega⟩, HX4.out⟩
 case round =>
  obtain ⟨k, c, r, hk, rfl, rfl, hb, hi, hx⟩ := hrel
  have HB2 := Lib.hid hb; have HI := Lib.hid hi; have HX := Lib.hid hx
  have hc1 : c ≤ 1 := hi.c1
  have HRL : Hid (r.length = n) := hi.len
  clear hb hi hx HR4 HX4
  by_cases hlt : k < n
  ·obtain ⟨ba, oa, rfl, q0⟩ := (HA.out.ext (HX3.out.trans HX.out)) k (by rw [HN.out]; exact hlt)
   have hk0 : (0 : Int) ≤ k := by omega
   have hk1 : (k : Int) < n := by omega
   have hXb := gN_lt HXK.out k
   have hYb := gN_lt HYK.out k
   have HST := Lib.hid (HI.out.step hlt HXK.out HYK.out)
   have c0 : wr.cell? ⟨G, k, none⟩ = some (.int .u32 (gN r k : Int)) := by rw [HB2.out.cell, ucells_get (by rw [HRL.out]; omega)]
   have f0 := HB2.out.frozen k
   have HY0 : Hid (m ≤ k → gN b k = 0) := fun h => by simp [gN, show b.length ≤ k by rw [HM.out]; exact h]
   obtain ⟨X, hX⟩ : ∃ X, X = gN a k := ⟨_, rfl⟩
   obtain ⟨Y, hY⟩ : ∃ Y, Y = gN b k := ⟨_, rfl⟩
   rw [← hX] at q0 hXb HST
   rw [← hY] at hYb HST HY0
   have HYE := Lib.hid hY
   clear hX hY
   obtain ⟨D1, hD1⟩ : ∃ D, D = (X + 18446744073709551616 - c) % 18446744073709551616 := ⟨_, rfl⟩
   obtain ⟨D2, hD2⟩ : ∃ D, D = (X + 18446744073709551616 - c - Y) % 18446744073709551616 := ⟨_, rfl⟩
   have hw1 : IntKind.u64.wrap (X : Int) = (X : Int) := IntWalk.u64_in _ (by omega)
   have hw2 : IntKind.u64.wrap ((X : Int) - (c : Int)) = (D1 : Int) := by rw [IntKind.wrap_u64]; omega
   have hw3 : IntKind.u64.wrap (Y : Int) = (Y : Int) := IntWalk.u64_in _ (by omega)
   have hw4 : IntKind.u64.wrap ((D1 : Int) - (Y : Int)) = (D2 : Int) := by rw [IntKind.wrap_u64]; omega
   have HL2 : Hid (D2 % 4294967296 = (X + 2 * 4294967296 - c - Y) % 4294967296) := by show _ = _; omega
   have HC2 : Hid (D2 / 9223372036854775808 = if X < c + Y then 1 else 0) := by show _ = _; split <;> omega
   rw [← HL2.out, ← HC2.out] at HST
   by_cases hm : k < m
   ·obtain ⟨bb, ob, rfl, r0⟩ := (HB.out.ext (HX3.out.trans HX.out)) k (by rw [HM.out]; exact hm)
    rw [← HYE.out] at r0
    have hk2 : (k : Int) < m := by omega
    clear hD1 hD2
    go_wp2_with fail
    go_roundw
    case rel =>
     have e5 : ((D2 / 9223372036854775808 : Nat) : Int) = (D2 : Int) / 9223372036854775808 := by omega
     have e6 : ((D2 % 4294967296 : Nat) : Int) = (D2 : Int) % 4294967296 := by omega
     refine ⟨k + 1, D2 / 9223372036854775808, r.set k (D2 % 4294967296), by omega, by go_num, by rw [e5], ?_, HST.out, Ext.setCell (p := ⟨G, k, none⟩) HX.out HGL.out _⟩
     have h := HB2.out.set k (.int .u32 ((D2 % 4294967296 : Nat) : Int))
     rw [ucells_set, e6] at h
     exact h
    case measure => simp [intOf]; omega
   ·obtain rfl : Y = 0 := HY0.out (by omega)
    have hk2 : ¬ (k : Int) < m := by omega
    obtain rfl : D1 = D2 := by omega
    clear hD1 hD2
    go_wp2_with fail
    go_roundw
    case rel =>
     have e5 : ((D1 / 9223372036854775808 : Nat) : Int) = (D1 : Int) / 9223372036854775808 := by omega
     have e6 : ((D1 % 4294967296 : Nat) : Int) = (D1 : Int) % 4294967296 := by omega
     refine ⟨k + 1, D1 / 9223372036854775808, r.set k (D1 % 4294967296), by omega, by go_num, by rw [e5], ?_, HST.out, Ext.setCell (p := ⟨G, k, none⟩) HX.out HGL.out _⟩
     have h := HB2.out.set k (.int .u32 ((D1 % 4294967296 : Nat) : Int))
     rw [ucells_set, e6] at h
     exact h
    case measure => simp [intOf]; omega
  ·obtain rfl : n = k := by omega
   have hdn := (show SubI a b r a.length a.length c from by rw [HN.out]; exact HI.out).done (by rw [HN.out, HM.out]; exact HMN.out) (by rw [HXN.out, HYN.out]; omega)
   have hT := trim_any (some ⟨G, 0, none⟩) n n r wr (lims_blk (R := []) (by rw [List.append_nil]; exact HB2.out)) HI.out.ok HRL.out (Nat.le_refl _) (by omega)
   rw [hdn, HXN.out, HYN.out] at hT
   have HT := Lib.hid hT
   clear hT hdn
   go_wp2_with fail
   refine (HT.out).mono ?_
   rintro e w5 ⟨v5, rfl, hv5, he5⟩
   go_wp2_with fail
   go_ret2
   exact ⟨fun h => absurd h hc, fun _ => ⟨v5, rfl, hv5, HX2.out.trans (HX3.out.trans (HX.out.trans he5))⟩⟩
/- the bound of divisors -/
def DB : Nat := 4294967296
/- at most k limbs -/
def Sz (k n : Nat) : Prop := n < 4294967296 ^ k
theorem Sz.len {k n : Nat} (h : Sz k n) (hk : k ≤ 1000) : (limbs n).length ≤ 1000 := Nat.le_trans (limbs_le h) hk
theorem Sz.mono {k j n : Nat} (h : Sz k n) (hk : k ≤ j) : Sz j n := Nat.lt_of_lt_of_le h (Nat.pow_le_pow_right (by omega) hk)
theorem Sz.mul {k j n m : Nat} (h : Sz k n) (h' : Sz j m) : Sz (k + j) (n * m) := by
 unfold Sz at *
 rw [Nat.pow_add]
 have h1 : n * m ≤ n * 4294967296 ^ j := Nat.mul_le_mul_left _ (Nat.le_of_lt h')
 have h2 : n * 4294967296 ^ j < 4294967296 ^ k * 4294967296 ^ j := Nat.mul_lt_mul_of_pos_right h (Nat.pow_pos (by omega))
 omega
theorem Sz.add {k n m : Nat} (h : Sz k n) (h' : Sz k m) : Sz (k + 1) (n + m) := by
 unfold Sz at *
 rw [Nat.pow_succ]
 omega
theorem sz_db {n : Nat} (h : n < DB) : Sz 20 n := Nat.lt_of_lt_of_le h (by unfold DB; exact Nat.le_trans (Nat.le_of_eq (Nat.pow_one _).symm) (Nat.pow_le_pow_right (by omega) (by omega)))
theorem ndiv_db (u v : Value) (x y : Nat) (w : World) (hu : NatAt w u x) (hv : NatAt w v y) (hx : (limbs x).length ≤ 1000) (hy0 : 0 < y) (hy : y < DB) : Calls Tryz.prog 148 #[u, v] w (RetDv w x y) := ndivmod_any u v x y w hu hv hx hy0 hy
theorem ngcd_db (u v : Value) (x y : Nat) (w : World) (hu : NatAt w u x) (hv : NatAt w v y) (hx : (limbs x).length ≤ 1000) (hy : y < DB) : Calls Tryz.prog 147 #[u, v] w (RetNt w (Nat.gcd x y)) := ngcd_any u v x y w hu hv hx hy
/- values -/
def IsN (n : Nat) : Value → World → Prop := fun v w => NatAt w v n
theorem IsN.kp (n : Nat) : Kp (IsN n) := fun _ _ _ he h => NatAt.ext h he
def IsRaw (neg : Bool) (n : Nat) : Value → World → Prop := fun v w => ∃ u, v = .agg #[.bool neg, u] ∧ NatAt w u n
theorem IsRaw.kp (neg : Bool) (n : Nat) : Kp (IsRaw neg n) := fun v w w' he h => by
 obtain ⟨u, h1, h2⟩ := h; exact ⟨u, h1, h2.ext he⟩
def IsZ (z : Int) : Value → World → Prop := IsRaw (negI z) z.natAbs
theorem IsZ.kp (z : Int) : Kp (IsZ z) := IsRaw.kp _ _
theorem NatAt.form {w : World} {u : Value} {n : Nat} (h : NatAt w u n) : ∃ A k c, u = .slice A k c := by
 obtain ⟨A, c, e, _⟩ := h; exact ⟨A, _, c, e⟩
theorem isZ_of {neg : Bool} {x : Nat} {u : Value} {w : World} {b : Bool} (hb : b = (neg && decide (0 < x))) (h : NatAt w u x) : IsZ (sgI neg x) (.agg #[.bool b, u]) w :=
 ⟨u, by rw [hb, negI_sgI], by rw [sgI_abs]; exact h⟩
/- a block without limbs may turn -/
def nou (cs : List Value) : Bool := cs.all fun v => match v with
 | .int .u32 _ => false
 |_ => true
theorem nou_get {cs : List Value} (h : nou cs = true) {j : Nat} {z : Int} (hj : cs[j]? = some (.int .u32 z)) : False := by
 have := List.all_eq_true.1 h _ (List.mem_of_getElem? hj)
 simp at this
theorem NatAt.other {t : TypeId} {w w' : World} {G : Nat} {cs : List Value} {v : Value} {n : Nat} (h : NatAt w v n) (hb : Blk t w G cs) (hn : nou cs = true) (k : Kept (fun b => b = G) w w') : NatAt w' v n := by
 obtain ⟨A, c, e, h1, h2, h3⟩ := h
 refine ⟨A, c, e, fun j hj => ?_, h2, h3⟩
 obtain ⟨b, off, e1, h4⟩ := h1 j hj
 refine ⟨b, off, e1, ?_⟩
 have hbG : b ≠ G := by
  rintro rfl
  rw [hb.cell] at h4
  exact nou_get hn h4
 have hl : b < w.heap.size := cell_lt h4
 have e2 := k.block b hl hbG
 unfold World.cell? at h4 ⊢
 simp only at h4 ⊢
 rw [e2]; exact h4
theorem kext {w w1 w3 : World} {G : Nat} (hx : Ext w w1) (hG : w.heap.size ≤ G) (k : Kept (fun b => b = G) w1 w3) : Ext w w3 := k.ext hx (fun b e => by subst e; exact hG)
theorem ks2 (w : World) (G : Nat) (u0 u1 : Value) : Kept (fun b => b = G) w ((w.setCell ⟨G, 0, none⟩ u0).setCell ⟨G, 1, none⟩ u1) := kset (kset (Kept.refl _ _) _ _) _ _
theorem ks3 (w : World) (G : Nat) (u0 u1 u2 : Value) : Kept (fun b => b = G) w (((w.setCell ⟨G, 0, none⟩ u0).setCell ⟨G, 1, none⟩ u1).setCell ⟨G, 2, none⟩ u2) := kset (kset (kset (Kept.refl _ _) _ _) _ _) _ _
theorem signed_any (neg : Bool) (u : Value) (x : Nat) (w : World) (h : NatAt w u x) (hx : (limbs x).length ≤ 1000) : Calls Tryz.prog 145 #[.bool neg, u] w (Ret (IsZ (sgI neg x)) w) := by
 have HN := Lib.hid (fun W (he : Ext w W) => norm_any u x W (h.ext he) hx)
 have hp : (limbs x).length = 0 ↔ x = 0 := ⟨fun h => limbs_nil (List.eq_nil_of_length_eq_zero h), fun h => by rw [h, limbs_zero]; rfl⟩
 obtain ⟨A, k, c, rfl⟩ := h.form
 clear h hx
 go_enter Tryz.func145, Tryz.ntmps145
 go_wp2_with fail
 refine (HN.out _ ((Ext.refl _).alloc _)).mono ?_
 rintro e w1 ⟨v, rfl, hv, he1⟩
 have HV := Lib.hid hv
 have HX1 := Lib.hid he1
 have HB : Hid (Blk 143 w1 w.heap.size [.bool false, .slice none 0 0]) := (Blk.new' rfl).ext he1
 obtain ⟨A1, c1, rfl, h1, h2, h3⟩ := hv
 clear h1 h2 h3 HN he1
 obtain ⟨n, hn⟩ : ∃ n, n = (limbs x).length := ⟨_, rfl⟩
 rw [← hn] at HV hp ⊢
 clear hn
 have b0 := HB.out.cell 0; have b1 := HB.out.cell 1
 have f0 := HB.out.frozen 0; have f1 := HB.out.frozen 1
 simp only [List.getElem?_cons_succ, List.getElem?_cons_zero] at b0 b1
 have hl := HB.out.lt
 have HK := Lib.hid (fun b => HV.out.other HB.out rfl (ks2 w1 w.heap.size (.bool b) (.slice A1 n c1)))
 have HE := Lib.hid (fun b => kext (((Ext.refl _).alloc _).trans HX1.out) (Nat.le_refl _) (ks2 w1 w.heap.size (.bool b) (.slice A1 n c1)))
 cases neg
 ·clear hp
  go_wp2_with fail
  refine bodyPost_ret (v := .agg #[.bool false, .slice A1 n c1]) (by simp [results, Tryz.results145, go_sem, b0, b1]) rfl ?_
  exact ⟨_, rfl, isZ_of rfl (HK.out _), HE.out _⟩
 ·by_cases hx : x = 0
  ·have hn0 : n = 0 := hp.2 hx
   subst hn0
   have hd : false = (true && decide (0 < x)) := by rw [decide_eq_false (by omega)]; rfl
   have HD := Lib.hid hd
   clear hp hd
   go_wp2_with fail
   refine bodyPost_ret (v := .agg #[.bool false, .slice A1 0 c1]) (by simp [results, Tryz.results145, go_sem, b0, b1]) rfl ?_
   exact ⟨_, rfl, isZ_of HD.out (HK.out _), HE.out _⟩
  ·have hn0 : 0 < n := by
    rcases Nat.eq_zero_or_pos n with h | h
    ·exact absurd (hp.1 h) hx
    ·exact h
   have hd : true = (true && decide (0 < x)) := by rw [decide_eq_true (by omega)]; rfl
   have HD := Lib.hid hd
   have hn1 : (0 : Int) < n := by omega
   clear hp hd
   go_wp2_with fail
   refine bodyPost_ret (v := .agg #[.bool true, .slice A1 n c1]) (by simp [results, Tryz.results145, go_sem, b0, b1]) rfl ?_
   exact ⟨_, rfl, isZ_of HD.out (HK.out _), HE.out _⟩
theorem iof_any (z : Int) (w : World) (h0 : -9223372036854775808 ≤ z) (h1 : z ≤ 9223372036854775807) : Calls Tryz.prog 149 #[.int .i64 z] w (Ret (IsZ z) w) := by
 have HN := Lib.hid (fun (n : Nat) (hn : n < 18446744073709551616) W => nof_any n W hn)
 have HS := Lib.hid signed_any
 by_cases hz : z < 0
 ·obtain ⟨k, hk⟩ : ∃ k : Nat, z = -(k : Int) := ⟨z.natAbs, by omega⟩
  subst hk
  have hw : IntKind.u64.wrap (-(IntKind.u64.wrap (-(k : Int)))) = (k : Int) := by
   rw [IntKind.wrap_u64, IntKind.wrap_u64]; omega
  have hk : (limbs k).length ≤ 1000 := Nat.le_trans (limbs_le (k := 2) (by omega)) (by omega)
  have hk' : k < 18446744073709551616 := by omega
  have HE : Hid (sgI true k = -(k : Int)) := rfl
  clear h0 h1
  go_enter Tryz.func149, Tryz.ntmps149
  go_wp2_with fail
  refine (HN.out k hk' _).mono ?_
  rintro e w1 ⟨u, rfl, hu, he1⟩
  have hs := HS.out true u k w1 hu hk
  rw [HE.out] at hs
  have HS1 := Lib.hid hs
  have HX1 : Hid (Ext w w1) := ((Ext.refl _).alloc _).trans he1
  have HB1 : Hid (Blk 143 w1 w.heap.size [.bool false, .slice none 0 0]) := (Blk.new' rfl).ext he1
  obtain ⟨A, n, c, rfl⟩ := hu.form
  clear hu he1 hs HS HN
  go_wp2_with fail
  refine HS1.out.mono ?_
  rintro e w2 ⟨v, rfl, ⟨u2, rfl, hu2⟩, he2⟩
  have HU2 := Lib.hid hu2
  have HB2 := Lib.hid (HB1.out.ext he2)
  have HX2 := Lib.hid (HX1.out.trans he2)
  obtain ⟨A2, n2, c2, rfl⟩ := hu2.form
  clear hu2 he2 HX1 HB1 HS1
  have b0 := HB2.out.cell 0; have b1 := HB2.out.cell 1
  have f0 := HB2.out.frozen 0; have f1 := HB2.out.frozen 1
  simp only [List.getElem?_cons_succ, List.getElem?_cons_zero] at b0 b1
  obtain ⟨b, hb⟩ : ∃ b, b = negI (-(k : Int)) := ⟨_, rfl⟩
  rw [← hb]
  have HBE := Lib.hid hb
  clear hb
  go_wp2_with fail
  refine bodyPost_ret (v := .agg #[.bool b, .slice A2 n2 c2]) (by simp [results, Tryz.results149, go_sem, b0, b1]) rfl ?_
  refine ⟨_, rfl, ⟨_, by rw [HBE.out], HU2.out.other HB2.out rfl (ks2 _ _ _ _)⟩, kext HX2.out (Nat.le_refl _) (ks2 _ _ _ _)⟩
 ·obtain ⟨k, hk⟩ : ∃ k : Nat, z = (k : Int) := ⟨z.natAbs, by omega⟩
  subst hk
  have hw : IntKind.u64.wrap (k : Int) = (k : Int) := by
   rw [IntKind.wrap_u64]; omega
  have hk : (limbs k).length ≤ 1000 := Nat.le_trans (limbs_le (k := 2) (by omega)) (by omega)
  have hk' : k < 18446744073709551616 := by omega
  have HE : Hid (sgI false k = (k : Int)) := rfl
  clear h0 h1
  go_enter Tryz.func149, Tryz.ntmps149
  go_wp2_with fail
  refine (HN.out k hk' _).mono ?_
  rintro e w1 ⟨u, rfl, hu, he1⟩
  have hs := HS.out false u k w1 hu hk
  rw [HE.out] at hs
  have HS1 := Lib.hid hs
  have HX1 : Hid (Ext w w1) := ((Ext.refl _).alloc _).trans he1
  have HB1 : Hid (Blk 143 w1 w.heap.size [.bool false, .slice none 0 0]) := (Blk.new' rfl).ext he1
  obtain ⟨A, n, c, rfl⟩ := hu.form
  clear hu he1 hs HS HN
  go_wp2_with fail
  refine HS1.out.mono ?_
  rintro e w2 ⟨v, rfl, ⟨u2, rfl, hu2⟩, he2⟩
  have HU2 := Lib.hid hu2
  have HB2 := Lib.hid (HB1.out.ext he2)
  have HX2 := Lib.hid (HX1.out.trans he2)
  obtain ⟨A2, n2, c2, rfl⟩ := hu2.form
  clear hu2 he2 HX1 HB1 HS1
  have b0 := HB2.out.cell 0; have b1 := HB2.out.cell 1
  have f0 := HB2.out.frozen 0; have f1 := HB2.out.frozen 1
  simp only [List.getElem?_cons_succ, List.getElem?_cons_zero] at b0 b1
  obtain ⟨b, hb⟩ : ∃ b, b = negI (k : Int) := ⟨_, rfl⟩
  rw [← hb]
  have HBE := Lib.hid hb
  clear hb
  go_wp2_with fail
  refine bodyPost_ret (v := .agg #[.bool b, .slice A2 n2 c2]) (by simp [results, Tryz.results149, go_sem, b0, b1]) rfl ?_
  refine ⟨_, rfl, ⟨_, by rw [HBE.out], HU2.out.other HB2.out rfl (ks2 _ _ _ _)⟩, kext HX2.out (Nat.le_refl _) (ks2 _ _ _ _)⟩
theorem inorm_any (neg : Bool) (x : Nat) (v : Value) (w : World) (h : IsRaw neg x v w) (hx : (limbs x).length ≤ 1000) : Calls Tryz.prog 143 #[v] w (Ret (IsZ (sgI neg x)) w) := by
 obtain ⟨u, rfl, h⟩ := h
 have HS := Lib.hid (fun W (he : Ext w W) => signed_any neg u x W (h.ext he) hx)
 obtain ⟨A, n, c, rfl⟩ := h.form
 clear h hx
 go_enter Tryz.func143, Tryz.ntmps143
 go_wp2_with fail
 refine (HS.out _ (((Ext.refl _).alloc _).alloc _)).mono ?_
 rintro e w2 ⟨v, rfl, ⟨u2, rfl, hu2⟩, he2⟩
 have HU2 := Lib.hid hu2
 have HB2 : Hid (Blk 143 w2 (w.heap.size + 1) [.bool false, .slice none 0 0]) := (Blk.new' (by simp)).ext he2
 have HX2 : Hid (Ext w w2) := (((Ext.refl _).alloc _).alloc _).trans he2
 obtain ⟨A2, n2, c2, rfl⟩ := hu2.form
 clear hu2 he2 HS
 have b0 := HB2.out.cell 0; have b1 := HB2.out.cell 1
 have f0 := HB2.out.frozen 0; have f1 := HB2.out.frozen 1
 simp only [List.getElem?_cons_succ, List.getElem?_cons_zero] at b0 b1
 obtain ⟨b, hb⟩ : ∃ b, b = negI (sgI neg x) := ⟨_, rfl⟩
 rw [← hb]
 have HBE := Lib.hid hb
 clear hb
 go_wp2_with fail
 refine bodyPost_ret (v := .agg #[.bool b, .slice A2 n2 c2]) (by simp [results, Tryz.results143, go_sem, b0, b1]) rfl ?_
 refine ⟨_, rfl, ⟨_, by rw [HBE.out], HU2.out.other HB2.out rfl (ks2 _ _ _ _)⟩, kext HX2.out (Nat.le_succ _) (ks2 _ _ _ _)⟩
theorem ineg_any (neg : Bool) (x : Nat) (v : Value) (w : World) (h : IsRaw neg x v w) (hx : (limbs x).length ≤ 1000) : Calls Tryz.prog 152 #[v] w (Ret (IsZ (- sgI neg x)) w) := by
 obtain ⟨u, rfl, h⟩ := h
 have HS := Lib.hid (fun W (he : Ext w W) => signed_any (!neg) u x W (h.ext he) hx)
 rw [sgI_neg] at HS
 obtain ⟨A, n, c, rfl⟩ := h.form
 clear h hx
 go_enter Tryz.func152, Tryz.ntmps152
 go_wp2_with fail
 refine (HS.out _ (((Ext.refl _).alloc _).alloc _)).mono ?_
 rintro e w2 ⟨v, rfl, ⟨u2, rfl, hu2⟩, he2⟩
 have HU2 := Lib.hid hu2
 have HB2 : Hid (Blk 143 w2 (w.heap.size + 1) [.bool false, .slice none 0 0]) := (Blk.new' (by simp)).ext he2
 have HX2 : Hid (Ext w w2) := (((Ext.refl _).alloc _).alloc _).trans he2
 obtain ⟨A2, n2, c2, rfl⟩ := hu2.form
 clear hu2 he2 HS
 have b0 := HB2.out.cell 0; have b1 := HB2.out.cell 1
 have f0 := HB2.out.frozen 0; have f1 := HB2.out.frozen 1
 simp only [List.getElem?_cons_succ, List.getElem?_cons_zero] at b0 b1
 obtain ⟨b, hb⟩ : ∃ b, b = negI (- sgI neg x) := ⟨_, rfl⟩
 rw [← hb]
 have HBE := Lib.hid hb
 clear hb
 go_wp2_with fail
 refine bodyPost_ret (v := .agg #[.bool b, .slice A2 n2 c2]) (by simp [results, Tryz.results152, go_sem, b0, b1]) rfl ?_
 refine ⟨_, rfl, ⟨_, by rw [HBE.out], HU2.out.other HB2.out rfl (ks2 _ _ _ _)⟩, kext HX2.out (Nat.le_succ _) (ks2 _ _ _ _)⟩
set_option maxRecDepth 100000 in
set_option maxHeartbeats 3200000 in
theorem imul_any (a b : Bool) (x y : Nat) (u v : Value) (w : World) (h : IsRaw a x u w) (h' : IsRaw b y v w) (hx : (limbs x).length ≤ 1000) (hy : (limbs y).length ≤ 1000) (hxy : (limbs (x * y)).length ≤ 1000) : Calls Tryz.prog 122 #[u, v] w (Ret (IsZ (sgI a x * sgI b y)) w) := by
 obtain ⟨u, rfl, h⟩ := h
 obtain ⟨v, rfl, h'⟩ := h'
 obtain ⟨A, k, c, rfl⟩ := h.form
 obtain ⟨A2, k2, c2, rfl⟩ := h'.form
 have HA := Lib.hid h; have HA2 := Lib.hid h'
 have HXL := Lib.hid hx; have HYL := Lib.hid hy; have HZL := Lib.hid hxy
 clear h h' hx hy hxy
 rw [← sgI_mul]
 go_enter Tryz.func122, Tryz.ntmps122
 go_upto_region 1 with fail
 refine wp_at fun W0 hW0 => ?_
 have HX0 : Hid (Ext w W0) := by show Ext _ _; rw [hW0]; exact (((Ext.refl _).alloc _).alloc _).alloc _
 have HB1 : Hid (Blk 143 W0 (w.heap.size) [.bool a, .slice A k c]) := by show Blk _ _ _ _; rw [hW0]; exact ((Blk.new' rfl).ext ((Ext.refl _).alloc _)).ext ((Ext.refl _).alloc _)
 have HB2 : Hid (Blk 143 W0 (w.heap.size + 1) [.bool b, .slice A2 k2 c2]) := by show Blk _ _ _ _; rw [hW0]; exact (Blk.new' (by simp)).ext ((Ext.refl _).alloc _)
 have HB3 : Hid (Blk 143 W0 (w.heap.size + 1 + 1) [.bool false, .slice none 0 0]) := by show Blk _ _ _ _; rw [hW0]; exact Blk.new' (by simp)
 have HAW := Lib.hid (HA.out.ext HX0.out); have HAW2 := Lib.hid (HA2.out.ext HX0.out)
 clear hW0
 refine region_slotsL (l := 11) (N := 16) (W0 := W0) [5, 6, 7, 8, 9, 10, 11, 12, 13, 14, 15] [Fx (.pointer (some ⟨w.heap.size, 0, none⟩)), Fx (.bool a), Fx (.pointer (some ⟨w.heap.size + 1, 0, none⟩)), Fx (.bool b), Fx (.bool (a != b)), Fx (.pointer (some ⟨w.heap.size, 1, none⟩)), IsN x, Fx (.pointer (some ⟨w.heap.size + 1, 1, none⟩)), IsN y, IsN (x * y), IsZ (sgI (a != b) (x * y))] (by kernel_rfl) (by kernel_rfl) (by kernel_rfl) (by kernel_rfl) (Ext.refl _) ?kp (fun i hi => ?_) (fun xs w1 hx hT => ?_)
 case kp => exact ⟨Fx.kp _, Fx.kp _, Fx.kp _, Fx.kp _, Fx.kp _, Fx.kp _, IsN.kp _, Fx.kp _, IsN.kp _, IsN.kp _, IsZ.kp _, trivial⟩
 ·match i, hi with
  |0, _ =>
   refine so rfl ?_
   intro fb wi hx hb hd K hK
   have x2 : fb.eval (.tmp 2) = .pointer (some ⟨w.heap.size, 0, none⟩) := hb 2 (by kernel_rfl)
   refine step_valR (wanted_all rfl) (v := .pointer (some ⟨w.heap.size, 0, none⟩)) (w' := wi) (fun ρ hρ hc => ?_) (hK _ _ (Ext.refl _) (rfl))
   have r2 := (hρ (.tmp 2)).trans x2
   simp [execOp, go_sem, r2]
  |1, _ =>
   refine so rfl ?_
   intro fb wi hx hb hd K hK
   have x5 : fb.eval (.tmp 5) = .pointer (some ⟨w.heap.size, 0, none⟩) := hd 0 5 rfl (by kernel_rfl)
   have c0 := (HB1.out.ext hx).cell 0
   simp only [List.getElem?_cons_zero] at c0
   refine step_valR (wanted_all rfl) (v := .bool a) (w' := wi) (fun ρ hρ hc => ?_) (hK _ _ (Ext.refl _) (rfl))
   have r5 := (hρ (.tmp 5)).trans x5
   simp [execOp, go_sem, r5, c0]
  |2, _ =>
   refine so rfl ?_
   intro fb wi hx hb hd K hK
   have x3 : fb.eval (.tmp 3) = .pointer (some ⟨w.heap.size + 1, 0, none⟩) := hb 3 (by kernel_rfl)
   refine step_valR (wanted_all rfl) (v := .pointer (some ⟨w.heap.size + 1, 0, none⟩)) (w' := wi) (fun ρ hρ hc => ?_) (hK _ _ (Ext.refl _) (rfl))
   have r3 := (hρ (.tmp 3)).trans x3
   simp [execOp, go_sem, r3]
  |3, _ =>
   refine so rfl ?_
   intro fb wi hx hb hd K hK
   have x7 : fb.eval (.tmp 7) = .pointer (some ⟨w.heap.size + 1, 0, none⟩) := hd 2 7 rfl (by kernel_rfl)
   have c0 := (HB2.out.ext hx).cell 0
   simp only [List.getElem?_cons_zero] at c0
   refine step_valR (wanted_all rfl) (v := .bool b) (w' := wi) (fun ρ hρ hc => ?_) (hK _ _ (Ext.refl _) (rfl))
   have r7 := (hρ (.tmp 7)).trans x7
   simp [execOp, go_sem, r7, c0]
  |4, _ =>
   refine so rfl ?_
   intro fb wi hx hb hd K hK
   have x6 : fb.eval (.tmp 6) = .bool a := hd 1 6 rfl (by kernel_rfl)
   have x8 : fb.eval (.tmp 8) = .bool b := hd 3 8 rfl (by kernel_rfl)
   refine step_valR (wanted_all rfl) (v := .bool (a != b)) (w' := wi) (fun ρ hρ hc => ?_) (hK _ _ (Ext.refl _) (rfl))
   have r6 := (hρ (.tmp 6)).trans x6
   have r8 := (hρ (.tmp 8)).trans x8
   simp [execOp, go_sem, r6, r8]
   cases a <;> cases b <;> rfl
  |5, _ =>
   refine so rfl ?_
   intro fb wi hx hb hd K hK
   have x2 : fb.eval (.tmp 2) = .pointer (some ⟨w.heap.size, 0, none⟩) := hb 2 (by kernel_rfl)
   refine step_valR (wanted_all rfl) (v := .pointer (some ⟨w.heap.size, 1, none⟩)) (w' := wi) (fun ρ hρ hc => ?_) (hK _ _ (Ext.refl _) (rfl))
   have r2 := (hρ (.tmp 2)).trans x2
   simp [execOp, go_sem, r2]
  |6, _ =>
   refine so rfl ?_
   intro fb wi hx hb hd K hK
   have x10 : fb.eval (.tmp 10) = .pointer (some ⟨w.heap.size, 1, none⟩) := hd 5 10 rfl (by kernel_rfl)
   have c0 := (HB1.out.ext hx).cell 1
   simp only [List.getElem?_cons_zero, List.getElem?_cons_succ] at c0
   refine step_valR (wanted_all rfl) (v := .slice A k c) (w' := wi) (fun ρ hρ hc => ?_) (hK _ _ (Ext.refl _) (HAW.out.ext hx))
   have r10 := (hρ (.tmp 10)).trans x10
   simp [execOp, go_sem, r10, c0]
  |7, _ =>
   refine so rfl ?_
   intro fb wi hx hb hd K hK
   have x3 : fb.eval (.tmp 3) = .pointer (some ⟨w.heap.size + 1, 0, none⟩) := hb 3 (by kernel_rfl)
   refine step_valR (wanted_all rfl) (v := .pointer (some ⟨w.heap.size + 1, 1, none⟩)) (w' := wi) (fun ρ hρ hc => ?_) (hK _ _ (Ext.refl _) (rfl))
   have r3 := (hρ (.tmp 3)).trans x3
   simp [execOp, go_sem, r3]
  |8, _ =>
   refine so rfl ?_
   intro fb wi hx hb hd K hK
   have x12 : fb.eval (.tmp 12) = .pointer (some ⟨w.heap.size + 1, 1, none⟩) := hd 7 12 rfl (by kernel_rfl)
   have c0 := (HB2.out.ext hx).cell 1
   simp only [List.getElem?_cons_zero, List.getElem?_cons_succ] at c0
   refine step_valR (wanted_all rfl) (v := .slice A2 k2 c2) (w' := wi) (fun ρ hρ hc => ?_) (hK _ _ (Ext.refl _) (HAW2.out.ext hx))
   have r12 := (hρ (.tmp 12)).trans x12
   simp [execOp, go_sem, r12, c0]
  |9, _ =>
   refine so rfl ?_
   intro fb wi hx hb hd K hK
   have y11 : IsN x (fb.eval (.tmp 11)) wi := hd 6 11 rfl (by kernel_rfl)
   have y13 : IsN y (fb.eval (.tmp 13)) wi := hd 8 13 rfl (by kernel_rfl)
   refine step_callW (wanted_all rfl) 129 [.tmp 11, .tmp 13] #[141, 141] rfl _ Tryz.func129 rfl (by decide +kernel) [fb.eval (.tmp 11), fb.eval (.tmp 13)] rfl (nmul_any _ _ x y wi y11 y13 HXL.out HYL.out) (fun e w' h => ?_)
   obtain ⟨v, rfl, hv, hx'⟩ := h
   exact ⟨_, rfl, hK _ _ hx' hv⟩
  |10, _ =>
   refine so rfl ?_
   intro fb wi hx hb hd K hK
   have x9 : fb.eval (.tmp 9) = .bool (a != b) := hd 4 9 rfl (by kernel_rfl)
   have y14 : IsN (x * y) (fb.eval (.tmp 14)) wi := hd 9 14 rfl (by kernel_rfl)
   refine step_callW (wanted_all rfl) 145 [.tmp 9, .tmp 14] #[4, 141] rfl _ Tryz.func145 rfl (by decide +kernel) [.bool (a != b), fb.eval (.tmp 14)] (by simp only [List.map_cons, List.map_nil, x9]) (signed_any (a != b) _ (x * y) wi y14 HZL.out) (fun e w' h => ?_)
   obtain ⟨v, rfl, hv, hx'⟩ := h
   exact ⟨_, rfl, hK _ _ hx' hv⟩
  |n + 11, hn => exact absurd hn (by omega)
 ·skip
  have t15 : IsZ (sgI (a != b) (x * y)) (xs 10) w1 := hT 10 (by decide)
  simp only [frOf, putAll, List.drop_succ_cons, List.drop_zero, List.setIfInBounds_toArray, List.set_cons_succ, List.set_cons_zero, Nat.zero_add, Nat.reduceAdd]
  obtain ⟨u15, q15, h15⟩ := t15
  have HU := Lib.hid h15
  obtain ⟨A5, k5, c5, rfl⟩ := h15.form
  have HB4 := Lib.hid (HB3.out.ext hx)
  have HX4 := Lib.hid (HX0.out.trans hx)
  rw [q15]
  clear q15 h15 hT
  have b0 := HB4.out.cell 0; have b1 := HB4.out.cell 1
  have f0 := HB4.out.frozen 0; have f1 := HB4.out.frozen 1
  simp only [List.getElem?_cons_succ, List.getElem?_cons_zero] at b0 b1
  obtain ⟨s, hs⟩ : ∃ s, s = negI (sgI (a != b) (x * y)) := ⟨_, rfl⟩
  rw [← hs]
  have HS := Lib.hid hs
  clear hs
  go_wp2_with fail
  refine bodyPost_ret (v := .agg #[.bool s, .slice A5 k5 c5]) (by simp [results, Tryz.results122, go_sem, b0, b1]) rfl ?_
  exact ⟨_, rfl, ⟨_, by rw [HS.out], HU.out.other HB4.out rfl (ks2 _ _ _ _)⟩, kext HX4.out (by omega) (ks2 _ _ _ _)⟩
theorem limbs_mono {x y : Nat} (h : x ≤ y) : (limbs x).length ≤ (limbs y).length := by
 rcases Nat.lt_or_ge (limbs y).length (limbs x).length with h1 | h1
 ·have := limbs_len_lt h1; omega
 ·exact h1
theorem sgI_add (a : Bool) (x y : Nat) : sgI a (x + y) = sgI a x + sgI a y := by unfold sgI; split <;> omega
theorem sgI_sub {x y : Nat} (a : Bool) (h : ¬ x < y) : sgI a (x - y) = sgI a x + sgI (!a) y := by unfold sgI; cases a <;> simp <;> omega
theorem sgI_sub' {x y : Nat} (a : Bool) (h : x < y) : sgI (!a) (y - x) = sgI a x + sgI (!a) y := by unfold sgI; cases a <;> simp <;> omega
set_option maxRecDepth 100000 in
set_option maxHeartbeats 3200000 in
theorem iadd_any (a b : Bool) (x y : Nat) (u v : Value) (w : World) (h : IsRaw a x u w) (h' : IsRaw b y v w) (hx : (limbs x).length ≤ 1000) (hy : (limbs y).length ≤ 1000) (hxy : (limbs (x + y)).length ≤ 1000) : Calls Tryz.prog 151 #[u, v] w (Ret (IsZ (sgI a x + sgI b y)) w) := by
 obtain ⟨u, rfl, h⟩ := h
 obtain ⟨v, rfl, h'⟩ := h'
 obtain ⟨A, k, c, rfl⟩ := h.form
 obtain ⟨A2, k2, c2, rfl⟩ := h'.form
 have HA := Lib.hid h; have HA2 := Lib.hid h'
 have HXL := Lib.hid hx; have HYL := Lib.hid hy; have HZL := Lib.hid hxy
 clear h h' hx hy hxy
 by_cases hab : b = a
 ·subst hab
  rw [← sgI_add]
  go_enter Tryz.func151, Tryz.ntmps151
  go_upto_region 2 with fail
  refine wp_at fun W0 hW0 => ?_
  have HX0 : Hid (Ext w W0) := by show Ext _ _; rw [hW0]; exact (((Ext.refl _).alloc _).alloc _).alloc _
  have HB1 : Hid (Blk 143 W0 (w.heap.size) [.bool b, .slice A k c]) := by show Blk _ _ _ _; rw [hW0]; exact ((Blk.new' rfl).ext ((Ext.refl _).alloc _)).ext ((Ext.refl _).alloc _)
  have HB2 : Hid (Blk 143 W0 (w.heap.size + 1) [.bool b, .slice A2 k2 c2]) := by show Blk _ _ _ _; rw [hW0]; exact (Blk.new' (by simp)).ext ((Ext.refl _).alloc _)
  have HB3 : Hid (Blk 143 W0 (w.heap.size + 1 + 1) [.bool false, .slice none 0 0]) := by show Blk _ _ _ _; rw [hW0]; exact Blk.new' (by simp)
  have HAW := Lib.hid (HA.out.ext HX0.out); have HAW2 := Lib.hid (HA2.out.ext HX0.out)
  clear hW0
  refine region_slotsL (l := 8) (N := 47) (W0 := W0) [14, 15, 16, 17, 18, 19, 20, 21] [Fx (.pointer (some ⟨w.heap.size, 0, none⟩)), Fx (.bool b), Fx (.pointer (some ⟨w.heap.size, 1, none⟩)), IsN x, Fx (.pointer (some ⟨w.heap.size + 1, 1, none⟩)), IsN y, IsN (x + y), IsZ (sgI b (x + y))] (by kernel_rfl) (by kernel_rfl) (by kernel_rfl) (by kernel_rfl) (Ext.refl _) ?kp (fun i hi => ?_) (fun xs w1 hx hT => ?_)
  case kp => exact ⟨Fx.kp _, Fx.kp _, Fx.kp _, IsN.kp _, Fx.kp _, IsN.kp _, IsN.kp _, IsZ.kp _, trivial⟩
  ·match i, hi with
   |0, _ =>
    refine so rfl ?_
    intro fb wi hx hb hd K hK
    have x2 : fb.eval (.tmp 2) = .pointer (some ⟨w.heap.size, 0, none⟩) := hb 2 (by kernel_rfl)
    refine step_valR (wanted_all rfl) (v := .pointer (some ⟨w.heap.size, 0, none⟩)) (w' := wi) (fun ρ hρ hc => ?_) (hK _ _ (Ext.refl _) (rfl))
    have r2 := (hρ (.tmp 2)).trans x2
    simp [execOp, go_sem, r2]
   |1, _ =>
    refine so rfl ?_
    intro fb wi hx hb hd K hK
    have x14 : fb.eval (.tmp 14) = .pointer (some ⟨w.heap.size, 0, none⟩) := hd 0 14 rfl (by kernel_rfl)
    have c0 := (HB1.out.ext hx).cell 0
    simp only [List.getElem?_cons_zero] at c0
    refine step_valR (wanted_all rfl) (v := .bool b) (w' := wi) (fun ρ hρ hc => ?_) (hK _ _ (Ext.refl _) (rfl))
    have r14 := (hρ (.tmp 14)).trans x14
    simp [execOp, go_sem, r14, c0]
   |2, _ =>
    refine so rfl ?_
    intro fb wi hx hb hd K hK
    have x2 : fb.eval (.tmp 2) = .pointer (some ⟨w.heap.size, 0, none⟩) := hb 2 (by kernel_rfl)
    refine step_valR (wanted_all rfl) (v := .pointer (some ⟨w.heap.size, 1, none⟩)) (w' := wi) (fun ρ hρ hc => ?_) (hK _ _ (Ext.refl _) (rfl))
    have r2 := (hρ (.tmp 2)).trans x2
    simp [execOp, go_sem, r2]
   |3, _ =>
    refine so rfl ?_
    intro fb wi hx hb hd K hK
    have x16 : fb.eval (.tmp 16) = .pointer (some ⟨w.heap.size, 1, none⟩) := hd 2 16 rfl (by kernel_rfl)
    have c0 := (HB1.out.ext hx).cell 1
    simp only [List.getElem?_cons_zero, List.getElem?_cons_succ] at c0
    refine step_valR (wanted_all rfl) (v := .slice A k c) (w' := wi) (fun ρ hρ hc => ?_) (hK _ _ (Ext.refl _) (HAW.out.ext hx))
    have r16 := (hρ (.tmp 16)).trans x16
    simp [execOp, go_sem, r16, c0]
   |4, _ =>
    refine so rfl ?_
    intro fb wi hx hb hd K hK
    have x3 : fb.eval (.tmp 3) = .pointer (some ⟨w.heap.size + 1, 0, none⟩) := hb 3 (by kernel_rfl)
    refine step_valR (wanted_all rfl) (v := .pointer (some ⟨w.heap.size + 1, 1, none⟩)) (w' := wi) (fun ρ hρ hc => ?_) (hK _ _ (Ext.refl _) (rfl))
    have r3 := (hρ (.tmp 3)).trans x3
    simp [execOp, go_sem, r3]
   |5, _ =>
    refine so rfl ?_
    intro fb wi hx hb hd K hK
    have x18 : fb.eval (.tmp 18) = .pointer (some ⟨w.heap.size + 1, 1, none⟩) := hd 4 18 rfl (by kernel_rfl)
    have c0 := (HB2.out.ext hx).cell 1
    simp only [List.getElem?_cons_zero, List.getElem?_cons_succ] at c0
    refine step_valR (wanted_all rfl) (v := .slice A2 k2 c2) (w' := wi) (fun ρ hρ hc => ?_) (hK _ _ (Ext.refl _) (HAW2.out.ext hx))
    have r18 := (hρ (.tmp 18)).trans x18
    simp [execOp, go_sem, r18, c0]
   |6, _ =>
    refine so rfl ?_
    intro fb wi hx hb hd K hK
    have y17 : IsN x (fb.eval (.tmp 17)) wi := hd 3 17 rfl (by kernel_rfl)
    have y19 : IsN y (fb.eval (.tmp 19)) wi := hd 5 19 rfl (by kernel_rfl)
    refine step_callW (wanted_all rfl) 150 [.tmp 17, .tmp 19] #[141, 141] rfl _ Tryz.func150 rfl (by decide +kernel) [fb.eval (.tmp 17), fb.eval (.tmp 19)] rfl (nadd_any _ _ x y wi y17 y19 HXL.out HYL.out) (fun e w' h => ?_)
    obtain ⟨v, rfl, hv, hx'⟩ := h
    exact ⟨_, rfl, hK _ _ hx' hv⟩
   |7, _ =>
    refine so rfl ?_
    intro fb wi hx hb hd K hK
    have x15 : fb.eval (.tmp 15) = .bool b := hd 1 15 rfl (by kernel_rfl)
    have y20 : IsN (x + y) (fb.eval (.tmp 20)) wi := hd 6 20 rfl (by kernel_rfl)
    refine step_callW (wanted_all rfl) 145 [.tmp 15, .tmp 20] #[4, 141] rfl _ Tryz.func145 rfl (by decide +kernel) [.bool b, fb.eval (.tmp 20)] (by simp only [List.map_cons, List.map_nil, x15]) (signed_any b _ (x + y) wi y20 HZL.out) (fun e w' h => ?_)
    obtain ⟨v, rfl, hv, hx'⟩ := h
    exact ⟨_, rfl, hK _ _ hx' hv⟩
   |n + 8, hn => exact absurd hn (by omega)
  ·skip
   have t21 : IsZ (sgI b (x + y)) (xs 7) w1 := hT 7 (by decide)
   simp only [frOf, putAll, List.drop_succ_cons, List.drop_zero, List.setIfInBounds_toArray, List.set_cons_succ, List.set_cons_zero, Nat.zero_add, Nat.reduceAdd]
   obtain ⟨u15, q15, h15⟩ := t21
   have HU := Lib.hid h15
   obtain ⟨A5, k5, c5, rfl⟩ := h15.form
   have HB4 := Lib.hid (HB3.out.ext hx)
   have HX4 := Lib.hid (HX0.out.trans hx)
   rw [q15]
   clear q15 h15 hT
   have b0 := HB4.out.cell 0; have b1 := HB4.out.cell 1
   have f0 := HB4.out.frozen 0; have f1 := HB4.out.frozen 1
   simp only [List.getElem?_cons_succ, List.getElem?_cons_zero] at b0 b1
   obtain ⟨s, hs⟩ : ∃ s, s = negI (sgI b (x + y)) := ⟨_, rfl⟩
   rw [← hs]
   have HS := Lib.hid hs
   clear hs
   go_wp2_with fail
   refine bodyPost_ret (v := .agg #[.bool s, .slice A5 k5 c5]) (by simp [results, Tryz.results151, go_sem, b0, b1]) rfl ?_
   exact ⟨_, rfl, ⟨_, by rw [HS.out], HU.out.other HB4.out rfl (ks2 _ _ _ _)⟩, kext HX4.out (by omega) (ks2 _ _ _ _)⟩
 ·obtain rfl : b = !a := by cases a <;> cases b <;> first | rfl | exact absurd rfl hab
  clear hab
  have he : (a == !a) = false := by cases a <;> rfl
  go_enter Tryz.func151, Tryz.ntmps151
  go_wp2_with fail
  refine (nsub_any _ _ x y _ (HA.out.ext ((((Ext.refl _).alloc _).alloc _).alloc _)) (HA2.out.ext ((((Ext.refl _).alloc _).alloc _).alloc _)) HXL.out HYL.out).mono ?_
  intro e w1 hS
  clear he
  have hz : Ext w ((((w.alloc (.cells #[.bool a, .slice A k c] 143)).alloc (.cells #[.bool (!a), .slice A2 k2 c2] 143)).alloc (.cells #[.bool false, .slice none 0 0] 143))) := (((Ext.refl _).alloc _).alloc _).alloc _
  have hy1 : Blk 143 ((((w.alloc (.cells #[.bool a, .slice A k c] 143)).alloc (.cells #[.bool (!a), .slice A2 k2 c2] 143)).alloc (.cells #[.bool false, .slice none 0 0] 143))) (w.heap.size) [.bool a, .slice A k c] := ((Blk.new' rfl).ext ((Ext.refl _).alloc _)).ext ((Ext.refl _).alloc _)
  have hy2 : Blk 143 ((((w.alloc (.cells #[.bool a, .slice A k c] 143)).alloc (.cells #[.bool (!a), .slice A2 k2 c2] 143)).alloc (.cells #[.bool false, .slice none 0 0] 143))) (w.heap.size + 1) [.bool (!a), .slice A2 k2 c2] := (Blk.new' (by simp)).ext ((Ext.refl _).alloc _)
  have hy3 : Blk 143 ((((w.alloc (.cells #[.bool a, .slice A k c] 143)).alloc (.cells #[.bool (!a), .slice A2 k2 c2] 143)).alloc (.cells #[.bool false, .slice none 0 0] 143))) (w.heap.size + 1 + 1) [.bool false, .slice none 0 0] := Blk.new' (by simp)
  by_cases hlt : x < y
  ·obtain ⟨rfl, he1⟩ := hS.1 hlt
   have HX1 := Lib.hid (hz.trans he1)
   have HB1 := Lib.hid (hy1.ext he1); have HB2 := Lib.hid (hy2.ext he1); have HB3 := Lib.hid (hy3.ext he1)
   have HEQ := Lib.hid (sgI_sub' a hlt)
   have HYD : Hid ((limbs (y - x)).length ≤ 1000) := Nat.le_trans (limbs_mono (Nat.sub_le _ _)) HYL.out
   have HLT := Lib.hid hlt
   clear hS hz hy1 hy2 hy3 he1 hlt
   have b1 := HB1.out.cell 1; have d1 := HB2.out.cell 1
   simp only [List.getElem?_cons_succ, List.getElem?_cons_zero] at b1 d1
   go_wp2_with fail
   refine (nsub_any _ _ y x _ (HA2.out.ext HX1.out) (HA.out.ext HX1.out) HYL.out HXL.out).mono ?_
   intro e w3 hS
   obtain ⟨d, rfl, hd, he3⟩ := hS.2 (by have := HLT.out; omega)
   have HD := Lib.hid hd
   obtain ⟨A5, k5, c5, rfl⟩ := hd.form
   have HX4 := Lib.hid (HX1.out.trans he3)
   have HB6 := Lib.hid (HB2.out.ext he3); have HB4 := Lib.hid (HB3.out.ext he3)
   clear hd hS he3 b1 d1
   have b0 := HB6.out.cell 0
   simp only [List.getElem?_cons_zero] at b0
   go_wp2_with fail
   refine (signed_any (!a) _ (y - x) _ HD.out HYD.out).mono ?_
   rw [HEQ.out]
   rintro e w2 ⟨v, rfl, ⟨u2, rfl, hu2⟩, he2⟩
   clear b0
   have HU2 := Lib.hid hu2
   have HB5 := Lib.hid (HB4.out.ext he2)
   have HX5 := Lib.hid (HX4.out.trans he2)
   obtain ⟨A6, k6, c6, rfl⟩ := hu2.form
   clear hu2 he2
   have b0 := HB5.out.cell 0; have b1 := HB5.out.cell 1
   have f0 := HB5.out.frozen 0; have f1 := HB5.out.frozen 1
   simp only [List.getElem?_cons_succ, List.getElem?_cons_zero] at b0 b1
   obtain ⟨s, hs⟩ : ∃ s, s = negI (sgI a x + sgI (!a) y) := ⟨_, rfl⟩
   rw [← hs]
   have HS := Lib.hid hs
   clear hs
   go_wp2_with fail
   refine bodyPost_ret (v := .agg #[.bool s, .slice A6 k6 c6]) (by simp [results, Tryz.results151, go_sem, b0, b1]) rfl ?_
   exact ⟨_, rfl, ⟨_, by rw [HS.out], HU2.out.other HB5.out rfl (ks2 _ _ _ _)⟩, kext HX5.out (by omega) (ks2 _ _ _ _)⟩
  ·obtain ⟨d, rfl, hd, he1⟩ := hS.2 hlt
   have HD := Lib.hid hd
   obtain ⟨A5, k5, c5, rfl⟩ := hd.form
   have HX4 := Lib.hid (hz.trans he1)
   have HB6 := Lib.hid (hy1.ext he1); have HB4 := Lib.hid (hy3.ext he1)
   have HEQ := Lib.hid (sgI_sub a hlt)
   have HYD : Hid ((limbs (x - y)).length ≤ 1000) := Nat.le_trans (limbs_mono (Nat.sub_le _ _)) HXL.out
   clear hS hz hy1 hy2 hy3 he1 hd hlt
   have b0 := HB6.out.cell 0
   simp only [List.getElem?_cons_zero] at b0
   go_wp2_with fail
   refine (signed_any a _ (x - y) _ HD.out HYD.out).mono ?_
   rw [HEQ.out]
   rintro e w2 ⟨v, rfl, ⟨u2, rfl, hu2⟩, he2⟩
   clear b0
   have HU2 := Lib.hid hu2
   have HB5 := Lib.hid (HB4.out.ext he2)
   have HX5 := Lib.hid (HX4.out.trans he2)
   obtain ⟨A6, k6, c6, rfl⟩ := hu2.form
   clear hu2 he2
   have b0 := HB5.out.cell 0; have b1 := HB5.out.cell 1
   have f0 := HB5.out.frozen 0; have f1 := HB5.out.frozen 1
   simp only [List.getElem?_cons_succ, List.getElem?_cons_zero] at b0 b1
   obtain ⟨s, hs⟩ : ∃ s, s = negI (sgI a x + sgI (!a) y) := ⟨_, rfl⟩
   rw [← hs]
   have HS := Lib.hid hs
   clear hs
   go_wp2_with fail
   refine bodyPost_ret (v := .agg #[.bool s, .slice A6 k6 c6]) (by simp [results, Tryz.results151, go_sem, b0, b1]) rfl ?_
   exact ⟨_, rfl, ⟨_, by rw [HS.out], HU2.out.other HB5.out rfl (ks2 _ _ _ _)⟩, kext HX5.out (by omega) (ks2 _ _ _ _)⟩
def fitsV (z : Int) : Int := if -9223372036854775808 ≤ z ∧ z < 9223372036854775808 then z else 0
def fitsB (z : Int) : Bool := decide (-9223372036854775808 ≤ z ∧ z < 9223372036854775808)
def RetSl (w : World) (z : Int) (e : Ending) (w' : World) : Prop := e = .returned (.tuple #[.int .i64 (fitsV z), .bool (fitsB z)]) ∧ Ext w w'
theorem or_low (R X : Nat) (hR : R < 4294967296) (hX : X < 4294967296) : bits .or .u64 (R : Int) ((X : Int) * 4294967296) = ((R + X * 4294967296 : Nat) : Int) := by
 rw [show (X : Int) * 4294967296 = ((X * 4294967296 : Nat) : Int) by omega, bits_or_u64_nat _ _ (by omega) (by omega), Nat.or_comm]
 have h := Nat.two_pow_add_eq_or_of_lt (i := 32) (b := R) (by omega) X
 rw [show (2 : Nat) ^ 32 = 4294967296 from rfl] at h
 rw [Nat.mul_comm X, ← h, Nat.add_comm]
set_option maxRecDepth 100000 in
set_option maxHeartbeats 1600000 in
theorem ismall_any (z : Int) (v : Value) (w : World) (h : IsZ z v w) (hx : (limbs z.natAbs).length ≤ 1000) : Calls Tryz.prog 135 #[v] w (RetSl w z) := by
 obtain ⟨u, rfl, h⟩ := h
 have HN := Lib.hid (fun W (he : Ext w W) => inorm_any (negI z) z.natAbs _ W ⟨u, rfl, h.ext he⟩ hx)
 rw [sgI_negI] at HN
 obtain ⟨A, k, c, rfl⟩ := h.form
 clear h hx
 go_enter Tryz.func135, Tryz.ntmps135
 go_wp2_with fail
 refine (HN.out _ ((Ext.refl _).alloc _)).mono ?_
 rintro e w1 ⟨v, rfl, ⟨u1, rfl, hu1⟩, he1⟩
 have HX1 : Hid (Ext w w1) := ((Ext.refl _).alloc _).trans he1
 have HB1 : Hid (Blk 143 w1 w.heap.size [.bool (negI z), .slice A k c]) := (Blk.new' rfl).ext he1
 have HU1 := Lib.hid hu1
 obtain ⟨A1, c1, rfl, _, hc1, hc1'⟩ := hu1
 have b0 := HB1.out.cell 0; have b1 := HB1.out.cell 1
 have f0 := HB1.out.frozen 0; have f1 := HB1.out.frozen 1
 simp only [List.getElem?_cons_succ, List.getElem?_cons_zero] at b0 b1
 clear he1 HN
 obtain ⟨n, hn⟩ : ∃ n, n = (limbs z.natAbs).length := ⟨_, rfl⟩
 rw [← hn] at hc1 HU1 ⊢
 have HNE := Lib.hid hn
 clear hn
 obtain ⟨s, hs⟩ : ∃ s, s = negI z := ⟨_, rfl⟩
 rw [← hs] at b0 ⊢
 have HSE := Lib.hid hs
 clear hs
 by_cases h2 : 2 < n
 ·have hi : (2 : Int) < n := by omega
  go_wp2_with fail
  go_ret2
  have hb : 18446744073709551616 ≤ z.natAbs := by
   rcases Nat.lt_or_ge z.natAbs 18446744073709551616 with h | h
   ·have := limbs_le (k := 2) (n := z.natAbs) (by omega)
    rw [← HNE.out] at this; omega
   ·exact h
  refine ⟨?_, kext HX1.out (Nat.le_refl _) (ks2 _ _ _ _)⟩
  have e1 : fitsV z = 0 := if_neg (by omega)
  have e2 : fitsB z = false := decide_eq_false (by omega)
  rw [e1, e2]
  exact rfl
 ·have hi : ¬ (2 : Int) < n := by omega
  go_wp2_with fail
  refine wp_at fun W3 hW3 => ?_
  have HU3 : Hid (NatAt W3 (.slice A1 n c1) z.natAbs) := by show NatAt _ _ _; rw [hW3]; exact HU1.out.other HB1.out rfl (ks2 _ _ _ _)
  have HX3 : Hid (Ext w W3) := by show Ext _ _; rw [hW3]; exact kext HX1.out (Nat.le_refl _) (ks2 _ _ _ _)
  have HB3 : Hid (Blk 143 W3 w.heap.size [.bool s, .slice A1 n c1]) := by show Blk _ _ _ _; rw [hW3]; exact (HB1.out.set 0 _).set 1 _
  clear b0 b1 f0 f1 HB1 HX1 HU1 hW3
  have HL3 : Hid (LimsAt W3 A1 (limbs z.natAbs)) := by
   obtain ⟨A', c', e, h, _⟩ := HU3.out
   injection e with e
   rw [e]; exact h
  have HNL : Hid (natL (limbs z.natAbs) = z.natAbs) := natL_limbs _
  have HOK := Lib.hid (limbs_ok z.natAbs)
  obtain ⟨l, hl⟩ : ∃ l, l = limbs z.natAbs := ⟨_, rfl⟩
  rw [← hl] at HL3 HNL HOK HNE
  have HLN : Hid (l.length = n) := HNE.out.symm
  clear hl HNE
  go_loopw [4, 16] (fun ac i wr => ∃ k : Nat, k ≤ n ∧ i = .int .i64 k ∧ ac = .int .u64 ((natL (l.take k) : Nat) : Int) ∧ wr = W3) (fun _ i _ => n - (intOf i).toNat)
  case atStart => exact ⟨0, Nat.zero_le _, rfl, rfl, rfl⟩
  case round =>
   obtain ⟨k, hk, rfl, rfl, hwr⟩ := hrel
   by_cases hlt : k < n
   ·obtain ⟨ba, oa, rfl, q0⟩ := HL3.out k (by rw [HLN.out]; exact hlt)
    rw [← hwr] at q0
    have hk0 : (0 : Int) ≤ k := by omega
    have hk1 : (k : Int) < n := by omega
    have hXb := gN_lt HOK.out k
    have HTS := Lib.hid (natL_take_succ (l := l) (k := k) (by rw [HLN.out]; exact hlt))
    obtain ⟨X, hX⟩ : ∃ X, X = gN l k := ⟨_, rfl⟩
    rw [← hX] at q0 hXb HTS
    clear hX
    have HWR := Lib.hid hwr
    clear hwr
    have hk2 : k = 0 ∨ k = 1 := by omega
    rcases hk2 with rfl | rfl
    ·rw [Nat.add_zero] at q0
     have hz0 : natL (l.take 0) = 0 := rfl
     rw [hz0]
     rw [hz0] at HTS
     have hor : bits .or .u64 (0 : Int) (X : Int) = (X : Int) := by
      have := or_low 0 0 (by omega) (by omega)
      rw [show (0 : Int) = ((0 : Nat) : Int) from rfl, bits_or_u64_nat _ _ (by omega) (by omega)]; simp
     go_wp2_with fail
     go_roundw
     case rel =>
      refine ⟨1, by omega, by go_num, ?_, HWR.out⟩
      rw [HTS.out]
      simp
     case measure => simp [intOf]; omega
    ·have h1 := natL_lt (l := l.take 1) (fun x hx => HOK.out x (List.mem_of_mem_take hx))
     obtain ⟨R, hR⟩ : ∃ R, R = natL (l.take 1) := ⟨_, rfl⟩
     rw [← hR] at h1 HTS ⊢
     have hRb : R < 4294967296 := by rw [List.length_take, Nat.min_eq_left (by rw [HLN.out]; omega)] at h1; simpa using h1
     clear h1 hR
     have hor := or_low R X hRb hXb
     go_wp2_with fail
     go_roundw
     case rel =>
      refine ⟨2, by omega, by go_num, ?_, HWR.out⟩
      rw [HTS.out]
      congr 1
      omega
     case measure => simp [intOf]; omega
   ·obtain rfl : n = k := by omega
    have hT : natL (l.take n) = z.natAbs := by rw [natL_take_all (by rw [HLN.out]; exact Nat.le_refl _), HNL.out]
    rw [hT]
    clear hT
    subst hwr
    have b0 := HB3.out.cell 0
    simp only [List.getElem?_cons_zero] at b0
    have HZB : Hid (z.natAbs < 18446744073709551616) := by
     show _ < _
     rw [← HNL.out]
     refine Nat.lt_of_lt_of_le (natL_lt HOK.out) ?_
     rw [HLN.out]
     exact Nat.le_trans (Nat.pow_le_pow_right (by omega) (show n ≤ 2 by omega)) (by omega)
    clear hk hlt
    cases s
    ·have hz0 : ¬ z < 0 := by have := HSE.out; unfold negI at this; exact of_decide_eq_false this.symm
     by_cases hb : z.natAbs < 9223372036854775808
     ·have hb' : (z.natAbs : Int) < 9223372036854775808 := by omega
      go_wp2_with fail
      go_ret2
      refine ⟨?_, HX3.out⟩
      have e1 : fitsV z = (z.natAbs : Int) := (if_pos (by omega)).trans (by omega)
      have e2 : fitsB z = true := decide_eq_true (by omega)
      rw [e1, e2]
      exact rfl
     ·have hb' : ¬ (z.natAbs : Int) < 9223372036854775808 := by omega
      go_wp2_with fail
      go_ret2
      refine ⟨?_, HX3.out⟩
      have e1 : fitsV z = 0 := if_neg (by omega)
      have e2 : fitsB z = false := decide_eq_false (by omega)
      rw [e1, e2]
      exact rfl
    ·have hz0 : z < 0 := by have := HSE.out; unfold negI at this; exact of_decide_eq_true this.symm
     by_cases hb : z.natAbs ≤ 9223372036854775808
     ·have hb' : (z.natAbs : Int) ≤ 9223372036854775808 := by omega
      have hwz : wrap64 (IntKind.u64.wrap (-(z.natAbs : Int))) = z := by rw [IntKind.wrap_u64]; unfold wrap64; omega
      go_wp2_with fail
      go_ret2
      refine ⟨?_, HX3.out⟩
      have e1 : fitsV z = z := if_pos (by omega)
      have e2 : fitsB z = true := decide_eq_true (by omega)
      rw [e1, e2]
      first
       |exact rfl
       |(rw [hwz]; exact rfl)
     ·have hb' : ¬ (z.natAbs : Int) ≤ 9223372036854775808 := by omega
      go_wp2_with fail
      go_ret2
      refine ⟨?_, HX3.out⟩
      have e1 : fitsV z = 0 := if_neg (by omega)
      have e2 : fitsB z = false := decide_eq_false (by omega)
      rw [e1, e2]
      exact rfl
def IsR (r : Rat) : Value → World → Prop := fun v w => ∃ u d, v = .agg #[.bool (negI r.num), u, d] ∧ NatAt w u r.num.natAbs ∧ NatAt w d r.den
theorem IsR.ext {r : Rat} {v : Value} {w w2 : World} (h : IsR r v w) (he : Ext w w2) : IsR r v w2 := by
 obtain ⟨u, d, h1, h2, h3⟩ := h; exact ⟨u, d, h1, h2.ext he, h3.ext he⟩
theorem IsR.kp (r : Rat) : Kp (IsR r) := fun v w w' he h => by
 obtain ⟨u, d, h1, h2, h3⟩ := h; exact ⟨u, d, h1, h2.ext he, h3.ext he⟩
/- a block of the call's own, just made -/
def IsNew (t : TypeId) (n : Nat) (cs : List Value) : Value → World → Prop := fun v w => ∃ g, v = .pointer (some ⟨g, 0, none⟩) ∧ n ≤ g ∧ Blk t w g cs
theorem IsNew.kp (t : TypeId) (n : Nat) (cs : List Value) : Kp (IsNew t n cs) := fun v w w' he h => by
 obtain ⟨g, h1, h2, h3⟩ := h; exact ⟨g, h1, h2, h3.ext he⟩
theorem zero_any (u : Value) (x : Nat) (w : World) (h : NatAt w u x) : Calls Tryz.prog 128 #[u] w fun e w' => e = .returned (.bool (decide (x = 0))) ∧ Ext w w' := by
 have HC := Lib.hid (fun W (he : Ext w W) => ncmp_any u (.slice none 0 0) x 0 W (h.ext he) (nat_nil W))
 obtain ⟨A, k, c, rfl⟩ := h.form
 clear h
 by_cases hx : x = 0
 ·subst hx
  go_enter Tryz.func128, Tryz.ntmps128
  go_wp2_with fail
  refine (HC.out _ (Ext.refl _)).mono ?_
  rintro e w1 ⟨rfl, he1⟩
  rw [show cmpI ((0 : Nat) : Int) ((0 : Nat) : Int) = 0 from by decide]
  go_wp2_with fail
  go_ret
  exact ⟨rfl, he1⟩
 ·have hd : decide (x = 0) = false := decide_eq_false hx
  rw [hd]
  clear hd
  have hc : cmpI ((x : Nat) : Int) ((0 : Nat) : Int) = 1 := by unfold cmpI; rw [if_neg (by omega), if_pos (by omega)]
  go_enter Tryz.func128, Tryz.ntmps128
  go_wp2_with fail
  refine (HC.out _ (Ext.refl _)).mono ?_
  rintro e w1 ⟨rfl, he1⟩
  rw [hc]
  go_wp2_with fail
  go_ret
  exact ⟨rfl, he1⟩
theorem rposit_any (u : Value) (x : Nat) (w : World) (h : NatAt w u x) : Calls Tryz.prog 123 #[u] w (Ret (IsRaw false x) w) := by
 have HN := Lib.hid h
 obtain ⟨A, k, c, rfl⟩ := h.form
 clear h
 go_enter Tryz.func123, Tryz.ntmps123
 go_wp2_with fail
 refine bodyPost_ret (v := .agg #[.bool false, .slice A k c]) (by simp [results, Tryz.results123, go_sem]) rfl ?_
 exact ⟨_, rfl, ⟨_, rfl, HN.out.ext ((Ext.refl _).alloc _)⟩, (Ext.refl _).alloc _⟩
theorem value_any (r : Rat) (v : Value) (w : World) (h : IsR r v w) : Calls Tryz.prog 120 #[v] w fun e w' => e = .returned v ∧ Ext w w' := by
 obtain ⟨u, d, rfl, h1, h2⟩ := h
 have HZ := Lib.hid (fun W (he : Ext w W) => zero_any d r.den W (h2.ext he))
 obtain ⟨A, k, c, rfl⟩ := h1.form
 obtain ⟨A2, k2, c2, rfl⟩ := h2.form
 clear h1 h2
 have hd : decide (r.den = 0) = false := decide_eq_false r.den_nz
 rw [hd] at HZ
 clear hd
 generalize negI r.num = s
 go_enter Tryz.func120, Tryz.ntmps120
 go_wp2_with fail
 refine (HZ.out _ (((Ext.refl _).alloc _).alloc _)).mono ?_
 rintro e w1 ⟨rfl, he1⟩
 have HX1 : Hid (Ext w w1) := (((Ext.refl _).alloc _).alloc _).trans he1
 have HB1 : Hid (Blk 145 w1 w.heap.size [.bool s, .slice A k c, .slice A2 k2 c2]) := ((Blk.new' rfl).ext ((Ext.refl _).alloc _)).ext he1
 have HB2 : Hid (Blk 145 w1 (w.heap.size + 1) [.bool false, .slice none 0 0, .slice none 0 0]) := (Blk.new' (by simp)).ext he1
 have b0 := HB1.out.cell 0; have b1 := HB1.out.cell 1; have b2 := HB1.out.cell 2
 have d0 := HB2.out.cell 0; have d1 := HB2.out.cell 1; have d2 := HB2.out.cell 2
 have f0 := HB2.out.frozen 0; have f1 := HB2.out.frozen 1; have f2 := HB2.out.frozen 2
 simp only [List.getElem?_cons_succ, List.getElem?_cons_zero] at b0 b1 b2 d0 d1 d2
 clear he1 HZ
 go_wp2_with fail
 refine bodyPost_ret (v := .agg #[.bool s, .slice A k c, .slice A2 k2 c2]) (by simp [results, Tryz.results120, go_sem, d0, d1, d2]) rfl ?_
 exact ⟨rfl, kext HX1.out (Nat.le_succ _) (ks3 _ _ _ _ _)⟩
set_option maxRecDepth 100000 in
set_option maxHeartbeats 1600000 in
theorem reduce_any (neg : Bool) (x y : Nat) (v d : Value) (w : World) (h : IsRaw neg x v w) (h' : NatAt w d y) (hx : (limbs x).length ≤ 1000) (hy : y ≠ 0) (hb : y < DB) : Calls Tryz.prog 130 #[v, d] w (Ret (IsR (mkRat (sgI neg x) y)) w) := by
 obtain ⟨u, rfl, h⟩ := h
 have hyl : (limbs y).length ≤ 1000 := (sz_db hb).len (by omega)
 have hg : 0 < Nat.gcd x y := Nat.gcd_pos_of_pos_right _ (by omega)
 have hgy : Nat.gcd x y ≤ y := Nat.gcd_le_right _ (by omega)
 have hxd : x / Nat.gcd x y ≤ x := Nat.div_le_self _ _
 have HG := Lib.hid (fun W (he : Ext w W) => ngcd_db u d x y W (h.ext he) (h'.ext he) hx hb)
 have HD1 := Lib.hid (fun g W (he : Ext w W) (hh : NatAt W g (Nat.gcd x y)) => ndiv_db u g x (Nat.gcd x y) W (h.ext he) hh hx hg (Nat.lt_of_le_of_lt hgy hb))
 have HD2 := Lib.hid (fun g W (he : Ext w W) (hh : NatAt W g (Nat.gcd x y)) => ndiv_db d g y (Nat.gcd x y) W (h'.ext he) hh hyl hg (Nat.lt_of_le_of_lt hgy hb))
 have HN := Lib.hid (fun u W (hh : NatAt W u (x / Nat.gcd x y)) => inorm_any neg (x / Nat.gcd x y) _ W ⟨u, rfl, hh⟩ (Nat.le_trans (limbs_mono hxd) hx))
 have HR : Hid ((mkRat (sgI neg x) y).num = sgI neg (x / Nat.gcd x y)) := by
  show _ = _
  have e1 : (mkRat (sgI neg x) y).num.natAbs = x / Nat.gcd x y := by rw [mkRat_abs hy, sgI_abs]
  have e2 : negI (mkRat (sgI neg x) y).num = negI (sgI neg (x / Nat.gcd x y)) := by
   rw [mkRat_sgn hy, negI_sgI, negI_sgI]
   congr 1
   rw [decide_eq_decide]
   constructor
   ·intro hx0
    exact Nat.div_pos (Nat.le_of_dvd hx0 (Nat.gcd_dvd_left x y)) hg
   ·intro hx0
    rcases Nat.eq_zero_or_pos x with h0 | h0
    ·subst h0; simp at hx0
    ·exact h0
  rw [← sgI_negI (mkRat (sgI neg x) y).num, e1, e2, ← sgI_negI (sgI neg (x / Nat.gcd x y)), sgI_abs]
  congr 1
  rw [negI_sgI, negI_sgI]
  cases neg <;> simp
 have HDN : Hid ((mkRat (sgI neg x) y).den = y / Nat.gcd x y) := by show _ = _; rw [mkRat_den hy, sgI_abs]
 obtain ⟨A, k, c, rfl⟩ := h.form
 obtain ⟨A2, k2, c2, rfl⟩ := h'.form
 clear h h' hg hgy hb hx hyl hxd
 generalize mkRat (sgI neg x) y = R at HR HDN ⊢
 go_enter Tryz.func130, Tryz.ntmps130
 go_wp2_with fail
 refine (HG.out _ (((Ext.refl _).alloc _).alloc _)).mono ?_
 rintro e w1 ⟨g, rfl, hg, he1⟩
 have HX1 : Hid (Ext w w1) := (((Ext.refl _).alloc _).alloc _).trans he1
 have HB1 : Hid (Blk 143 w1 w.heap.size [.bool neg, .slice A k c]) := ((Blk.new' rfl).ext ((Ext.refl _).alloc _)).ext he1
 have HC1 : Hid (Blk 145 w1 (w.heap.size + 1) [.bool false, .slice none 0 0, .slice none 0 0]) := (Blk.new' (by simp)).ext he1
 have HGN := Lib.hid hg
 obtain ⟨A3, k3, c3, rfl⟩ := hg.form
 clear he1 hg HG
 have b1 := HB1.out.cell 1
 simp only [List.getElem?_cons_succ, List.getElem?_cons_zero] at b1
 go_wp2_with fail
 refine (HD1.out _ _ HX1.out HGN.out).mono ?_
 rintro e w2 ⟨q1, r1, rfl, hq1, _, he2⟩
 obtain ⟨A8, k8, c8, rfl⟩ := hq1.form
 have HX2 := Lib.hid (HX1.out.trans he2); have HG2 := Lib.hid (HGN.out.ext he2); have HQ1 := Lib.hid hq1; have HB2 := Lib.hid (HB1.out.ext he2); have HC2 := Lib.hid (HC1.out.ext he2)
 clear he2 hq1 b1
 go_wp2_with fail
 refine (HD2.out _ _ HX2.out HG2.out).mono ?_
 rintro e w3 ⟨q2, r2, rfl, hq2, _, he3⟩
 obtain ⟨A7, k7, c7, rfl⟩ := hq2.form
 have HX3 := Lib.hid (HX2.out.trans he3); have HQ3 := Lib.hid (HQ1.out.ext he3); have HQ2 := Lib.hid hq2; have HB3 := Lib.hid (HB2.out.ext he3); have HC3 := Lib.hid (HC2.out.ext he3)
 clear he3 hq2
 have b0 := HB3.out.cell 0
 simp only [List.getElem?_cons_zero] at b0
 go_wp2_with fail
 refine (HN.out _ _ HQ3.out).mono ?_
 rintro e w4 ⟨v, rfl, ⟨u4, rfl, hv⟩, he4⟩
 have HV := Lib.hid hv; have HX4 := Lib.hid (HX3.out.trans he4); have HQ4 := Lib.hid (HQ2.out.ext he4); have HC4 := Lib.hid (HC3.out.ext he4)
 obtain ⟨A6, k6, c6, rfl⟩ := hv.form
 clear he4 hv b0
 have d0 := HC4.out.cell 0; have d1 := HC4.out.cell 1; have d2 := HC4.out.cell 2
 have f0 := HC4.out.frozen 0; have f1 := HC4.out.frozen 1; have f2 := HC4.out.frozen 2
 simp only [List.getElem?_cons_succ, List.getElem?_cons_zero] at d0 d1 d2
 obtain ⟨s, hs⟩ : ∃ s, s = negI (sgI neg (x / Nat.gcd x y)) := ⟨_, rfl⟩
 rw [← hs]
 have HS := Lib.hid hs
 clear hs
 go_wp2_with fail
 refine bodyPost_ret (v := .agg #[.bool s, .slice A6 k6 c6, .slice A7 k7 c7]) (by simp [results, Tryz.results130, go_sem, d0, d1, d2]) rfl ?_
 refine ⟨_, rfl, ⟨_, _, by rw [HR.out, HS.out], ?_, ?_⟩, kext HX4.out (Nat.le_succ _) (ks3 _ _ _ _ _)⟩
 ·rw [HR.out]; exact HV.out.other HC4.out rfl (ks3 _ _ _ _ _)
 ·rw [HDN.out]; exact HQ4.out.other HC4.out rfl (ks3 _ _ _ _ _)
end Go.Proofs.YtfegbaokcbjllaaGreat
