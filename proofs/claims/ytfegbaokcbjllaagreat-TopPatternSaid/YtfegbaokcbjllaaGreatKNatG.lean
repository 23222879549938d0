/- natural.digit: one digit of a long division -/
import Derived.Laws.CopyOwn
import Derived.Deep.RegionHeld3
import Derived.Deep.CutRange
import Derived.IntWalk
import Derived.Lib.Mul64
import Derived.Test.YtfegbaokcbjllaaGreatKL2
import Derived.Test.YtfegbaokcbjllaaGreatKShP2
import Derived.Test.YtfegbaokcbjllaaGreatKLen2
/- natural: trim, Of, Norm -/
namespace Go.Proofs.YtfegbaokcbjllaaGreat
open Go.RowKit
theorem trim_any (A : Option Addr) (n c : Nat) (l : List Nat) (w : World) (ha : LimsAt w A l) (hok : LimOk l) (hl : l.length = n) (hc : n ≤ c) (hc' : c ≤ 9223372036854775807) :
  Calls Tryz.prog 146 #[.slice A n c] w (RetNt w (natL l)) := by
 have HL := Lib.hid hl; clear hl
 have HA := Lib.hid ha; clear ha
 have HT := Lib.hid (fun k (hk : k ≤ n) h h0 => trim_take (k := k) hok (by rw [HL.out]; exact hk) h h0)
 clear hok
 go_enter Tryz.func146, Tryz.ntmps146
 go_wp2_with fail
 go_loopw [3] (fun i wr => ∃ k : Nat, k ≤ n ∧ i = .int .i64 k ∧ (∀ j, k ≤ j → j < n → gN l j = 0) ∧ Ext w wr) (fun i _ => (intOf i).toNat)
 case atStart => exact ⟨n, Nat.le_refl _, rfl, fun j h1 h2 => by omega, Ext.refl _⟩
 case round =>
  obtain ⟨k, hk, rfl, hz, hx⟩ := hrel
  have HZ := Lib.hid hz; clear hz
  have hk3 : (k : Int) ≤ c := by omega
  have hk4 : (0 : Int) ≤ k := by omega
  by_cases h0 : k = 0
  ·subst h0
   go_wp2_with fail
   go_ret
   refine ⟨_, rfl, natAt_of (l := l.take 0) ((HA.out.ext hx).take 0) (HT.out 0 (by omega) (fun j h1 h2 => HZ.out j h1 (by rw [← HL.out]; exact h2)) (.inl rfl)) rfl (by omega) hc', hx⟩
  ·obtain ⟨m, rfl⟩ : ∃ m, k = m + 1 := ⟨k - 1, by omega⟩
   obtain ⟨b, off, rfl, q0⟩ := (HA.out.ext hx) m (by rw [HL.out]; omega)
   have hm1 : (m : Int) < n := by omega
   have hm0 : (0 : Int) ≤ m := by omega
   have hme : ((m + 1 : Nat) : Int) - 1 = m := by omega
   by_cases hg : gN l m = 0
   ·rw [hg] at q0
    go_wp2_with fail
    go_roundw
    case rel =>
     refine ⟨m, by omega, by go_num, fun j h1 h2 => ?_, hx⟩
     rcases Nat.eq_or_lt_of_le h1 with e | e
     ·subst e; exact hg
     ·exact HZ.out j e h2
    case measure => simp [intOf]
   ·obtain ⟨x, hx'⟩ : ∃ x, x = gN l m := ⟨_, rfl⟩
    rw [← hx'] at q0 hg
    have hgb : ((x : Int) == 0) = false := by simp; omega
    go_wp2_with fail
    go_ret
    refine ⟨_, rfl, natAt_of (l := l.take (m + 1)) ((HA.out.ext hx).take (m + 1)) (HT.out (m + 1) hk (fun j h1 h2 => HZ.out j h1 (by rw [← HL.out]; exact h2)) (.inr ?_)) (by rw [List.length_take, HL.out]; omega) (by omega) hc', hx⟩
    rw [Nat.add_sub_cancel]
    show gN l m ≠ 0
    omega
theorem lim_info : (Tryz.prog.info? 192).map (fun i => (i.zero, i.size, i.bytes)) = some (some (.int .u32 0), 1, 4) := by kernel_rfl
theorem make_lims (n : Nat) (hn : n ≤ 100000) (w : World) : (Instr.makeSlice 141 (.int .i64 n) (.int .i64 n)).run Tryz.prog w = .ok (.slice (some ⟨w.heap.size, 0, none⟩) n n) (w.alloc (.cells (ucells (List.replicate n 0)).toArray 192)) := by
 have h := run_make (P := Tryz.prog) w 141 192 (i := ((Tryz.prog.info? 192).getD default)) (z := .int .u32 0) Tryz.underlying141 (by kernel_rfl) (by kernel_rfl) .i64 .i64 n n (by omega) (by omega) (by
  rw [show ((Tryz.prog.info? 192).getD default).bytes = 4 from by kernel_rfl]; omega) (by omega)
 rw [show ((Tryz.prog.info? 192).getD default).size = 1 from by kernel_rfl] at h
 rw [show (ucells (List.replicate n 0)).toArray = madeCells #[.int .u32 0] (n * 1) from by rw [made_one]; simp [ucells]]
 simpa [Value.cells] using h
theorem LimsAt.cellsA {w : World} {a : Addr} {l : List Nat} (h : LimsAt w (some a) l) : ∀ j u, (ucells l)[j]? = some u → w.cell? (a.add j) = some u := by
 intro j u hu
 have hj : j < l.length := by
  rcases Nat.lt_or_ge j l.length with h1 | h1
  ·exact h1
  ·rw [List.getElem?_eq_none (by rw [ucells_length]; exact h1)] at hu; cases hu
 obtain ⟨b, off, e, h0⟩ := h j hj
 injection e with e
 subst e
 rw [addr_add, h0, ← hu, ucells_get hj]
theorem limbs_le : ∀ {k n : Nat}, n < 4294967296 ^ k → (limbs n).length ≤ k
 |0, n, h => by
  obtain rfl : n = 0 := by simpa using h
  rw [limbs_zero]; exact Nat.le_refl _
 |k + 1, n, h => by
  rcases Nat.eq_zero_or_pos n with h0 | h0
  ·subst h0; rw [limbs_zero]; exact Nat.zero_le _
  ·rw [limbs_pos h0, List.length_cons]
   rw [Nat.pow_succ] at h
   have := limbs_le (k := k) (n := n / 4294967296) (by rw [Nat.div_lt_iff_lt_mul (by omega)]; exact h)
   omega
theorem nof_any (n : Nat) (w : World) (hn : n < 18446744073709551616) : Calls Tryz.prog 142 #[.int .u64 (n : Int)] w (RetNt w n) := by
 have HT := Lib.hid (fun W (g : Nat) (hb : Blk 192 W g (ucells [n % 4294967296, n / 4294967296])) => trim_any (some ⟨g, 0, none⟩) 2 2 [n % 4294967296, n / 4294967296] W (lims_blk (R := []) (by simpa using hb)) (fun x hx => by
  rcases List.mem_cons.1 hx with rfl | hx
  ·omega
  ·rw [List.mem_singleton.1 hx]; omega) rfl (Nat.le_refl _) (by omega))
 have he : natL [n % 4294967296, n / 4294967296] = n := by simp only [natL]; omega
 rw [he] at HT
 have e1 : ((n % 4294967296 : Nat) : Int) = (n : Int) % 4294967296 := by omega
 have e2 : ((n / 4294967296 : Nat) : Int) = (n : Int) / 4294967296 := by omega
 have HC : Hid (∀ W : World, Blk 192 (W.alloc (.cells #[.int .u32 ((n : Int) % 4294967296), .int .u32 ((n : Int) / 4294967296)] 192)) W.heap.size (ucells [n % 4294967296, n / 4294967296])) := fun W => by
  have h := Blk.new 192 W [.int .u32 ((n : Int) % 4294967296), .int .u32 ((n : Int) / 4294967296)]
  rw [← e1, ← e2] at h ⊢
  exact h
 clear e1 e2
 go_enter Tryz.func142, Tryz.ntmps142
 go_wp2_with fail
 refine (HT.out _ w.heap.size (HC.out w)).mono ?_
 rintro e w1 ⟨v, rfl, hv, he1⟩
 go_wp2_with fail
 go_ret
 exact ⟨v, rfl, hv, ((Ext.refl _).alloc _).trans he1⟩
set_option maxRecDepth 100000 in
theorem norm_any (u : Value) (x : Nat) (w : World) (h : NatAt w u x) (hx : (limbs x).length ≤ 1000) : Calls Tryz.prog 155 #[u] w (RetNt w x) := by
 obtain ⟨A, c, rfl, h1, h2, h3⟩ := h
 have ht := trim_any A _ c (limbs x) w h1 (limbs_ok x) rfl h2 h3
 rw [natL_limbs] at ht
 have HT := Lib.hid ht
 clear ht h1 h2 h3
 obtain ⟨L, hL⟩ : ∃ L, L = limbs x := ⟨_, rfl⟩
 have HLE := Lib.hid hL
 obtain ⟨n, hn⟩ : ∃ n, n = L.length := ⟨_, rfl⟩
 rw [← hL, ← hn] at HT hx ⊢
 have HNE := Lib.hid hn
 clear hn hL
 have hmk := make_lims n (by omega)
 go_enter Tryz.func155, Tryz.ntmps155
 go_wp2_with fail
 refine (HT.out).mono ?_
 rintro e w1 ⟨v, rfl, hv, he1⟩
 obtain ⟨A1, c1, rfl, g1, g2, g3⟩ := hv
 rw [← HLE.out] at g1 g2
 rw [← HLE.out, ← HNE.out]
 rw [← HNE.out] at g2
 have HG1 := Lib.hid g1
 have HEX := Lib.hid he1
 clear g1 he1
 go_wp2_with (refine wpList_copy_splice rfl (.tmp 9) (.tmp 10) 141 141 rfl 192 Tryz.underlying141 (by kernel_rfl) (some ⟨w1.heap.size, 0, none⟩) A1 n n n c1 rfl rfl w1.heap.size 0 (ucells (List.replicate n 0)) 192 ?k1 (ucells L) ?k2 ?k3 ?k4 ?k5 w.heap.size w ?k6 ?k7 ?_)
 case k1 => exact Blk.new _ _ _
 case k2 => rw [ucells_length, ← HNE.out]; simp
 case k3 =>
  intro hpos
  rw [ucells_length] at hpos
  obtain ⟨b, off, e, _⟩ := HG1.out 0 hpos
  subst e
  exact ⟨_, rfl, fun j v hv => ((Ext.refl _).alloc _).cell (HG1.out.cellsA j v hv)⟩
 case k4 => rw [ucells_length, ucells_length, ← HNE.out]; simp
 case k5 => intro v hv; obtain ⟨x, _, rfl⟩ := List.mem_map.1 hv; rfl
 case k6 => exact (HEX.out.alloc _)
 case k7 => exact HEX.out.size
 intro w2 hb2 he2
 go_wp2_with fail
 go_ret
 have hb := hb2.out
 have e : (splice (ucells (List.replicate n 0)) 0 (ucells L)) = ucells L := by
  unfold splice
  rw [List.take_zero, List.nil_append, Nat.zero_add, List.drop_of_length_le (by rw [ucells_length, ucells_length, ← HNE.out]; simp), List.append_nil]
 rw [e] at hb
 refine ⟨_, rfl, natAt_of (l := L) (lims_blk (R := []) (by rw [List.append_nil]; exact hb)) HLE.out HNE.out.symm (Nat.le_refl _) (by omega), he2⟩
theorem limbs_len_lt {x y : Nat} (h : (limbs x).length < (limbs y).length) : x < y := by
 have h1 := natL_lt (limbs_ok x)
 rw [natL_limbs] at h1
 have hne : limbs y ≠ [] := fun e => by rw [e] at h; exact absurd h (Nat.not_lt_zero _)
 have h2 := limbs_trim y hne
 have e : y = natL (limbs y).dropLast + 4294967296 ^ (limbs y).dropLast.length * (limbs y).getLast hne := by
  conv => lhs; rw [← natL_limbs y, ← List.dropLast_concat_getLast hne, natL_snoc]
 rw [List.length_dropLast] at e
 have h3 : 4294967296 ^ (limbs x).length ≤ 4294967296 ^ ((limbs y).length - 1) := Nat.pow_le_pow_right (by omega) (by omega)
 have h4 : 4294967296 ^ ((limbs y).length - 1) * 1 ≤ 4294967296 ^ ((limbs y).length - 1) * (limbs y).getLast hne := Nat.mul_le_mul_left _ (by omega)
 omega
theorem cmp_at {a b : List Nat} (hl : a.length = b.length) (ha : LimOk a) {i : Nat} (hi : i < a.length) (hd : natL (a.drop (i + 1)) = natL (b.drop (i + 1))) (h : gN a i < gN b i) : natL a < natL b := by
 rw [natL_split a i (by omega), natL_split b i (by omega), natL_drop hi, natL_drop (show i < b.length by omega), hd]
 have h1 : natL (a.take i) < 4294967296 ^ i := by
  have := natL_lt (l := a.take i) (fun x hx => ha x (List.mem_of_mem_take hx))
  rwa [List.length_take, Nat.min_eq_left (by omega)] at this
 have h2 : 4294967296 ^ i * (gN a i + 1 + 4294967296 * natL (b.drop (i + 1))) ≤ 4294967296 ^ i * (gN b i + 4294967296 * natL (b.drop (i + 1))) := Nat.mul_le_mul_left _ (by omega)
 have h3 : 4294967296 ^ i * (gN a i + 1 + 4294967296 * natL (b.drop (i + 1))) = 4294967296 ^ i * (gN a i + 4294967296 * natL (b.drop (i + 1))) + 4294967296 ^ i := by
  rw [show gN a i + 1 + 4294967296 * natL (b.drop (i + 1)) = gN a i + 4294967296 * natL (b.drop (i + 1)) + 1 by omega, Nat.mul_add, Nat.mul_one]
 omega
theorem compare32_any (a b : Nat) (w : World) : Calls Tryz.prog 154 #[.int .u32 (a : Int), .int .u32 (b : Int)] w fun e w' => e = .returned (.int .i64 (cmpI a b)) ∧ w = w' := by
 rcases Nat.lt_trichotomy a b with h | h | h
 ·have h1 : (a : Int) < b := by omega
  have e : cmpI (a : Int) b = -1 := by unfold cmpI; rw [if_pos h1]
  rw [e]
  go_enter Tryz.func154, Tryz.ntmps154
  go_wp2
  all_goals
   go_ret
   exact ⟨rfl, rfl⟩
 ·subst h
  have e : cmpI (a : Int) a = 0 := by unfold cmpI; rw [if_neg (by omega), if_neg (by omega)]
  rw [e]
  go_enter Tryz.func154, Tryz.ntmps154
  go_wp2
  all_goals
   go_ret
   exact ⟨rfl, rfl⟩
 ·have h1 : ¬ (a : Int) < b := by omega
  have h2 : (b : Int) < a := by omega
  have e : cmpI (a : Int) b = 1 := by unfold cmpI; rw [if_neg h1, if_pos (by omega)]
  rw [e]
  go_enter Tryz.func154, Tryz.ntmps154
  go_wp2
  all_goals
   go_ret
   exact ⟨rfl, rfl⟩
theorem trimN_any (u : Value) (x : Nat) (w : World) (h : NatAt w u x) : Calls Tryz.prog 146 #[u] w (RetNt w x) := by
 obtain ⟨A, c, rfl, h1, h2, h3⟩ := h
 have ht := trim_any A _ c (limbs x) w h1 (limbs_ok x) rfl h2 h3
 rw [natL_limbs] at ht
 exact ht
theorem ncmp_any (u v : Value) (x y : Nat) (w : World) (hu : NatAt w u x) (hv : NatAt w v y) : Calls Tryz.prog 144 #[u, v] w fun e w' => e = .returned (.int .i64 (cmpI (x : Int) (y : Int))) ∧ Ext w w' := by
 have HU := Lib.hid (fun W (he : Ext w W) => trimN_any u x W (hu.ext he))
 have HV := Lib.hid (fun W (he : Ext w W) => trimN_any v y W (hv.ext he))
 obtain ⟨A0, c0, rfl, _⟩ := hu
 obtain ⟨B0, d0, rfl, _⟩ := hv
 obtain ⟨n0, hn0⟩ : ∃ n, n = (limbs x).length := ⟨_, rfl⟩
 obtain ⟨m0, hm0⟩ : ∃ n, n = (limbs y).length := ⟨_, rfl⟩
 rw [← hn0] at HU ⊢
 rw [← hm0] at HV ⊢
 clear hn0 hm0
 go_enter Tryz.func144, Tryz.ntmps144
 go_wp2_with fail
 refine (HU.out _ (Ext.refl _)).mono ?_
 rintro e w1 ⟨u1, rfl, hu1, he1⟩
 have HU1 := Lib.hid hu1; have HX1 := Lib.hid he1
 obtain ⟨A, c, rfl, _, hca, hca'⟩ := hu1
 clear he1 HU
 go_wp2_with fail
 refine (HV.out _ HX1.out).mono ?_
 rintro e w2 ⟨v1, rfl, hv1, he2⟩
 have HV1 := Lib.hid hv1; have HX2 := Lib.hid (HX1.out.trans he2); have HU2 := Lib.hid (HU1.out.ext he2)
 obtain ⟨B, d, rfl, _, hdb, hdb'⟩ := hv1
 clear he2 HV HU1
 obtain ⟨A', c', e1, hA, _⟩ := HU2.out
 obtain ⟨B', d', e2, hB, _⟩ := HV1.out
 injection e1 with e1 _ _
 injection e2 with e2 _ _
 subst e1 e2
 have HA := Lib.hid hA; have HB := Lib.hid hB
 clear hA hB HU2 HV1
 have HLT1 := Lib.hid (@limbs_len_lt x y); have HLT2 := Lib.hid (@limbs_len_lt y x)
 have HXN : Hid (natL (limbs x) = x) := natL_limbs x
 have HYN : Hid (natL (limbs y) = y) := natL_limbs y
 have HXK := Lib.hid (limbs_ok x); have HYK := Lib.hid (limbs_ok y)
 obtain ⟨a, ha⟩ : ∃ a, a = limbs x := ⟨_, rfl⟩
 obtain ⟨b, hb⟩ : ∃ b, b = limbs y := ⟨_, rfl⟩
 rw [← ha] at HA HXN HXK hca HLT1 HLT2 ⊢
 rw [← hb] at HB HYN HYK hdb HLT1 HLT2 ⊢
 clear ha hb
 obtain ⟨n, hn⟩ : ∃ n, n = a.length := ⟨_, rfl⟩
 obtain ⟨m, hm⟩ : ∃ m, m = b.length := ⟨_, rfl⟩
 have HN : Hid (a.length = n) := hn.symm
 have HM : Hid (b.length = m) := hm.symm
 rw [← hn] at hca HLT1 HLT2 ⊢
 rw [← hm] at hdb HLT1 HLT2 ⊢
 clear hn hm
 go_wp2_with fail
 refine (compare_any _ _ _).mono ?_
 rintro e w3 ⟨rfl, rfl⟩
 by_cases h1 : n < m
 ·have e1 : cmpI (n : Int) m = -1 := by unfold cmpI; rw [if_pos (by omega)]
  have e2 : cmpI (x : Int) y = -1 := by unfold cmpI; rw [if_pos (by have := HLT1.out h1; omega)]
  have E2 := Lib.hid e2
  rw [e1]
  clear e1 e2
  go_wp2_with fail
  go_ret
  exact ⟨ret_int E2.out.symm, HX2.out⟩
 by_cases h2 : m < n
 ·have e1 : cmpI (n : Int) m = 1 := by unfold cmpI; rw [if_neg (by omega), if_pos (by omega)]
  have e2 : cmpI (x : Int) y = 1 := by have := HLT2.out h2; unfold cmpI; rw [if_neg (by omega), if_pos (by omega)]
  have E2 := Lib.hid e2
  rw [e1]
  clear e1 e2
  go_wp2_with fail
  go_ret
  exact ⟨ret_int E2.out.symm, HX2.out⟩
 obtain rfl : n = m := by omega
 have e1 : cmpI (n : Int) n = 0 := by unfold cmpI; rw [if_neg (by omega), if_neg (by omega)]
 rw [e1]
 clear e1 h1 h2 HLT1 HLT2
 go_wp2_with fail
 go_loopw [6] (fun i wr => ∃ k : Nat, k ≤ n ∧ i = .int .i64 ((k : Int) - 1) ∧ natL (a.drop k) = natL (b.drop k) ∧ Ext w2 wr) (fun i _ => ((intOf i) + 1).toNat)
 case atStart => exact ⟨n, Nat.le_refl _, by go_num, by rw [List.drop_of_length_le (by rw [HN.out]; exact Nat.le_refl _), List.drop_of_length_le (by rw [HM.out]; exact Nat.le_refl _)], Ext.refl _⟩
 case round =>
  obtain ⟨k, hk, rfl, hd, hx⟩ := hrel
  have HD := Lib.hid hd; clear hd
  by_cases h0 : k = 0
  ·subst h0
   go_wp2_with fail
   go_ret
   refine ⟨?_, HX2.out.trans hx⟩
   have hxy : x = y := by have h := HD.out; simp only [List.drop_zero] at h; rw [HXN.out, HYN.out] at h; exact h
   subst hxy
   show _ = Ending.returned (.int .i64 (cmpI (x : Int) (x : Int)))
   rw [show cmpI (x : Int) (x : Int) = 0 from by unfold cmpI; rw [if_neg (by omega), if_neg (by omega)]]
   rfl
  ·obtain ⟨j, rfl⟩ : ∃ j, k = j + 1 := ⟨k - 1, by omega⟩
   obtain ⟨ba, oa, rfl, q0⟩ := (HA.out.ext hx) j (by rw [HN.out]; omega)
   obtain ⟨bb, ob, rfl, r0⟩ := (HB.out.ext hx) j (by rw [HM.out]; omega)
   have hj0 : (0 : Int) ≤ j := by omega
   have hj1 : (j : Int) < n := by omega
   have hje : ((j + 1 : Nat) : Int) - 1 = j := by omega
   rw [hje]
   obtain ⟨X, hX⟩ : ∃ X, X = gN a j := ⟨_, rfl⟩
   obtain ⟨Y, hY⟩ : ∃ Y, Y = gN b j := ⟨_, rfl⟩
   rw [← hX] at q0
   rw [← hY] at r0
   have HXE := Lib.hid hX; have HYE := Lib.hid hY
   clear hX hY
   obtain ⟨wq, rfl⟩ : ∃ wq : World, wq = wr := ⟨_, rfl⟩
   go_upto_region 8 with fail
   have keep : ∀ W1 : World, Ext wq W1 → (Ext wq W1 ∧ W1.cell? ⟨ba, oa + j, none⟩ = some (.int .u32 (X : Int)) ∧ W1.cell? ⟨bb, ob + j, none⟩ = some (.int .u32 (Y : Int))) := fun W1 h => ⟨h, h.cell q0, h.cell r0⟩
   have KEEP := Lib.hid keep
   clear keep q0 r0
   go_region_held3 (fun W1 => Ext wq W1 ∧ W1.cell? ⟨ba, oa + j, none⟩ = some (.int .u32 (X : Int)) ∧ W1.cell? ⟨bb, ob + j, none⟩ = some (.int .u32 (Y : Int)))
    (first | (with_reducible assumption) | (with_reducible exact KEEP.out _ (Ext.drew (Ext.refl _))) | fail)
    (first
     |(go_at_call 154; (with_reducible refine (compare32_any X Y _).mono ?_); rintro e wz ⟨rfl, rfl⟩)
     |fail)
   rcases Nat.lt_trichotomy X Y with h | h | h
   ·have hc : cmpI (X : Int) Y = -1 := by unfold cmpI; rw [if_pos (by omega)]
    have E2 : Hid (cmpI (x : Int) y = -1) := by
     have h3 := cmp_at (HN.out.trans HM.out.symm) HXK.out (i := j) (by rw [HN.out]; omega) HD.out (by rw [← HXE.out, ← HYE.out]; exact h)
     rw [HXN.out, HYN.out] at h3
     show _ = _
     unfold cmpI; rw [if_pos (by omega)]
    rw [hc]
    clear hc
    go_wp2_with fail
    go_ret
    exact ⟨ret_int E2.out.symm, HX2.out.trans (hx.trans (by first | assumption | exact (Ext.refl _).drew))⟩
   ·subst h
    have hc : cmpI (X : Int) X = 0 := by unfold cmpI; rw [if_neg (by omega), if_neg (by omega)]
    rw [hc]
    clear hc
    go_wp2_with fail
    go_roundw
    case rel =>
     refine ⟨j, by omega, by go_num, ?_, hx.trans (by first | assumption | exact (Ext.refl _).drew)⟩
     rw [natL_drop (l := a) (k := j) (by rw [HN.out]; omega), natL_drop (l := b) (k := j) (by rw [HM.out]; omega), HD.out, ← HXE.out, ← HYE.out]
    case measure => simp [intOf]
   ·have hc : cmpI (X : Int) Y = 1 := by unfold cmpI; rw [if_neg (by omega), if_pos (by omega)]
    have E2 : Hid (cmpI (x : Int) y = 1) := by
     have h3 := cmp_at (HM.out.trans HN.out.symm) HYK.out (i := j) (by rw [HM.out]; omega) HD.out.symm (by rw [← HXE.out, ← HYE.out]; exact h)
     rw [HXN.out, HYN.out] at h3
     show _ = _
     unfold cmpI; rw [if_neg (by omega), if_pos (by omega)]
    rw [hc]
    clear hc
    go_wp2_with fail
    go_ret
    exact ⟨ret_int E2.out.symm, HX2.out.trans (hx.trans (by first | assumption | exact (Ext.refl _).drew))⟩
theorem or_limb (R X : Nat) (hR : R < 4294967296) (hX : X < 4294967296) : bits .or .u64 ((R : Int) * 4294967296) (X : Int) = ((R * 4294967296 + X : Nat) : Int) := by
 rw [show (R : Int) * 4294967296 = ((R * 4294967296 : Nat) : Int) by omega, bits_or_u64_nat _ _ (by omega) (by omega)]
 have h := Nat.two_pow_add_eq_or_of_lt (i := 32) (b := X) (by omega) R
 rw [show (2 : Nat) ^ 32 = 4294967296 from rfl] at h
 rw [Nat.mul_comm R, ← h]
set_option maxRecDepth 100000 in
set_option maxHeartbeats 1600000 in
theorem short_any (A : Option Addr) (n c d : Nat) (a : List Nat) (w : World) (ha : LimsAt w A a) (hok : LimOk a) (hl : a.length = n) (hn : n ≤ 1000) (hd0 : 0 < d) (hd : d < 4294967296) :
  Calls Tryz.prog 156 #[.slice A n c, .int .u32 (d : Int)] w fun e w' => ∃ u, e = .returned (.tuple #[u, .int .u32 ((natL a % d : Nat) : Int)]) ∧ NatAt w' u (natL a / d) ∧ Ext w w' := by
 have HA := Lib.hid ha; have HK := Lib.hid hok; have HL := Lib.hid hl
 clear ha hok hl
 have hmk := make_lims n (by omega)
 have hdz : ((d : Int) == 0) = false := by simp; omega
 go_enter Tryz.func156, Tryz.ntmps156
 go_wp2_with fail
 refine wp_at fun w1 hw1 => ?_
 have HB1 : Hid (Blk 192 w1 w.heap.size (ucells (List.replicate n 0))) := by show Blk _ _ _ _; rw [hw1]; exact Blk.new _ _ _
 have HX1 : Hid (Ext w w1) := by show Ext _ _; rw [hw1]; exact (Ext.refl _).alloc _
 clear hw1 hmk
 go_loopw [7, 8] (fun r i wr => ∃ (k R : Nat) (q : List Nat), k ≤ n ∧ i = .int .i64 ((k : Int) - 1) ∧ r = .int .u64 (R : Int) ∧ DivI a q d k R ∧ Blk 192 wr w.heap.size (ucells q) ∧ Ext w wr) (fun _ i _ => ((intOf i) + 1).toNat)
 case atStart =>
  refine ⟨n, 0, List.replicate n 0, Nat.le_refl _, by go_num, rfl, ⟨by simp [HL.out], fun x hx => by rw [List.eq_of_mem_replicate hx]; omega, ?_, hd0⟩, HB1.out, HX1.out⟩
  rw [List.drop_of_length_le (by rw [HL.out]; exact Nat.le_refl _), List.drop_of_length_le (by simp)]; simp [natL]
 case round =>
  obtain ⟨k, R, q, hk, rfl, rfl, hi, hb, hx⟩ := hrel
  have HI := Lib.hid hi; have HB := Lib.hid hb; have HX := Lib.hid hx
  have hR : R < d := hi.lt
  have HQL : Hid (q.length = n) := hi.len.trans HL.out
  clear hi hb hx
  by_cases h0 : k = 0
  ·subst h0
   have HDN := Lib.hid HI.out.done
   have hT := trim_any (some ⟨w.heap.size, 0, none⟩) n n q wr (lims_blk (R := []) (by rw [List.append_nil]; exact HB.out)) HI.out.ok HQL.out (Nat.le_refl _) (by omega)
   rw [HDN.out.1] at hT
   have HT := Lib.hid hT
   clear hT
   have hR32 : IntKind.u32.wrap (R : Int) = (R : Int) := IntWalk.u32_in _ (by omega)
   go_wp2_with fail
   refine (HT.out).mono ?_
   rintro e w2 ⟨v, rfl, hv, he2⟩
   go_wp2_with fail
   go_ret2
   refine ⟨v, ?_, hv, HX.out.trans he2⟩
   rw [← HDN.out.2]
   rfl
  ·obtain ⟨j, rfl⟩ : ∃ j, k = j + 1 := ⟨k - 1, by omega⟩
   obtain ⟨ba, oa, rfl, q0⟩ := (HA.out.ext HX.out) j (by rw [HL.out]; omega)
   have hj0 : (0 : Int) ≤ j := by omega
   have hj1 : (j : Int) < n := by omega
   have hje : ((j + 1 : Nat) : Int) - 1 = j := by omega
   have hXb := gN_lt HK.out j
   have HST := Lib.hid (HI.out.step (by rw [HL.out]; omega) hd HK.out)
   obtain ⟨X, hX⟩ : ∃ X, X = gN a j := ⟨_, rfl⟩
   rw [← hX] at q0 hXb HST
   clear hX
   rw [hje]
   have b0 : wr.cell? ⟨w.heap.size, j, none⟩ = some (.int .u32 (gN q j : Int)) := by rw [HB.out.cell, ucells_get (by rw [HQL.out]; omega)]
   have f0 := HB.out.frozen j
   have hbl : w.heap.size < wr.heap.size := HB.out.lt
   have hor := or_limb R X (by omega) hXb
   have HQ : Hid ((R * 4294967296 + X) / d < 4294967296) := by
    show _ < _
    rw [Nat.div_lt_iff_lt_mul hd0]
    have : (R + 1) * 4294967296 ≤ d * 4294967296 := Nat.mul_le_mul_right _ hR
    rw [Nat.mul_comm 4294967296 d]
    omega
   obtain ⟨T, hT⟩ : ∃ T, T = R * 4294967296 + X := ⟨_, rfl⟩
   rw [← hT] at hor HST HQ
   have HTB : Hid (T < 18446744073709551616) := by show _ < _; rw [hT]; omega
   clear hT
   obtain ⟨Q, hQ⟩ : ∃ Q, Q = T / d := ⟨_, rfl⟩
   obtain ⟨M, hM⟩ : ∃ M, M = T % d := ⟨_, rfl⟩
   have hq1 : (T : Int) / (d : Int) = (Q : Int) := by rw [hQ]; rfl
   have hq2 : (T : Int) % (d : Int) = (M : Int) := by rw [hM]; rfl
   rw [← hQ] at HQ HST
   rw [← hM] at HST
   have hQ32 := HQ.out
   have hq3 : IntKind.u64.wrap (Q : Int) = (Q : Int) := IntWalk.u64_in _ (by omega)
   have HQR := Lib.hid hq1; have HMR := Lib.hid hq2; have HWR := Lib.hid hq3
   clear hQ hM
   go_wp2_with fail
   go_roundw
   case rel =>
    refine ⟨j, M, q.set j Q, by omega, rfl, ?_, HST.out, ?_, ?_⟩
    ·first | rfl | rw [HMR.out]
    ·have h := HB.out.set j (.int .u32 (Q : Int))
     rw [ucells_set] at h
     have e : (Q : Int) % 4294967296 = (Q : Int) := by omega
     first
      |exact h
      |(rw [e]; exact h)
      |(rw [HQR.out, HWR.out, e]; exact h)
    ·exact Ext.setCell (p := ⟨w.heap.size, j, none⟩) HX.out (Nat.le_refl _) _
   case measure => simp [intOf]
def RetDv (w : World) (x y : Nat) (e : Ending) (w' : World) : Prop := ∃ q r, e = .returned (.tuple #[q, r, .bool true]) ∧ NatAt w' q (x / y) ∧ NatAt w' r (x % y) ∧ Ext w w'
set_option maxRecDepth 100000 in
set_option maxHeartbeats 1600000 in
theorem ndivmod_any (u v : Value) (x y : Nat) (w : World) (hu : NatAt w u x) (hv : NatAt w v y) (hx : (limbs x).length ≤ 1000) (hy0 : 0 < y) (hy : y < 4294967296) : Calls Tryz.prog 148 #[u, v] w (RetDv w x y) := by
 have HU := Lib.hid (fun W (he : Ext w W) => trimN_any u x W (hu.ext he))
 have HV := Lib.hid (fun W (he : Ext w W) => trimN_any v y W (hv.ext he))
 obtain ⟨A0, c0, rfl, _⟩ := hu
 obtain ⟨B0, d0, rfl, _⟩ := hv
 obtain ⟨n0, hn0⟩ : ∃ n, n = (limbs x).length := ⟨_, rfl⟩
 obtain ⟨m0, hm0⟩ : ∃ n, n = (limbs y).length := ⟨_, rfl⟩
 rw [← hn0] at HU ⊢
 rw [← hm0] at HV ⊢
 clear hn0 hm0
 go_enter Tryz.func148, Tryz.ntmps148
 go_wp2_with fail
 refine (HU.out _ (Ext.refl _)).mono ?_
 rintro e w1 ⟨u1, rfl, hu1, he1⟩
 have HU1 := Lib.hid hu1; have HX1 := Lib.hid he1
 obtain ⟨A, c, rfl, _, hca, hca'⟩ := hu1
 clear he1 HU
 go_wp2_with fail
 refine (HV.out _ HX1.out).mono ?_
 rintro e w2 ⟨v1, rfl, hv1, he2⟩
 have HV1 := Lib.hid hv1; have HX2 := Lib.hid (HX1.out.trans he2); have HU2 := Lib.hid (HU1.out.ext he2)
 obtain ⟨B, d, rfl, hB, hdb, hdb'⟩ := hv1
 clear he2 HV HU1
 rw [limbs_small hy0 hy] at hB hdb ⊢
 obtain ⟨bb, ob, hBe, b0⟩ := hB 0 (by simp)
 subst hBe
 simp only [List.length_cons, List.length_nil, Nat.zero_add, gN, List.getD_cons_zero, Nat.add_zero] at hdb b0 ⊢
 have HCM := Lib.hid (ncmp_any _ _ x y w2 HU2.out (by have h := HV1.out; rw [limbs_small hy0 hy] at h; exact h))
 have HNO := Lib.hid (fun W (he : Ext w2 W) => norm_any _ x W (HU2.out.ext he) hx)
 have HSH := Lib.hid (fun (A' : Option Addr) (n c : Nat) W (ha : LimsAt W A' (limbs x)) (hl : (limbs x).length = n) => short_any A' n c y (limbs x) W ha (limbs_ok x) hl (by omega) hy0 hy)
 rw [natL_limbs] at HSH
 obtain ⟨A', c', e1, hA, _⟩ := HU2.out
 injection e1 with e1 _ e2
 subst e1 e2
 have HA := Lib.hid hA
 have HOF := Lib.hid (fun W => nof_any (x % y) W (by have := Nat.mod_lt x hy0; omega))
 have HLX : Hid ((limbs x).length = (limbs x).length) := rfl
 clear hA
 obtain ⟨n, hn⟩ : ∃ n, n = (limbs x).length := ⟨_, rfl⟩
 have HNE := Lib.hid hn
 rw [← hn] at HCM HNO ⊢
 clear hn HLX
 go_wp2_with fail
 refine (HCM.out).mono ?_
 rintro e w3 ⟨rfl, he3⟩
 by_cases hc : x < y
 ·have e1 : cmpI (x : Int) (y : Int) = -1 := by unfold cmpI; rw [if_pos (by omega)]
  rw [e1]
  clear e1
  go_wp2_with fail
  refine (HNO.out _ he3).mono ?_
  rintro e w4 ⟨v4, rfl, hv4, he4⟩
  go_wp2_with fail
  refine bodyPost_ret (v := .tuple #[.slice none 0 0, v4, .bool true]) (by simp [results, Tryz.results148, go_sem]) rfl ?_
  refine ⟨_, v4, rfl, ?_, ?_, HX2.out.trans (he3.trans he4)⟩
  ·rw [Nat.div_eq_of_lt hc]; exact nat_nil _
  ·rw [Nat.mod_eq_of_lt hc]; exact hv4
 ·have hcm : ∃ z : Int, cmpI (x : Int) (y : Int) = z ∧ 0 ≤ z := by
   by_cases h2 : y < x
   ·exact ⟨1, by unfold cmpI; rw [if_neg (by omega), if_pos (by omega)], by omega⟩
   ·exact ⟨0, by unfold cmpI; rw [if_neg (by omega), if_neg (by omega)], by omega⟩
  obtain ⟨z, hz, hz0⟩ := hcm
  rw [hz]
  clear hz
  have hz1 : ¬ z < 0 := by omega
  have b3 := he3.cell b0
  have hM : x % y < 4294967296 := by have := Nat.mod_lt x hy0; omega
  go_wp2_with fail
  refine (HSH.out _ _ _ _ (HA.out.ext he3) HNE.out.symm).mono ?_
  rintro e w4 ⟨q, rfl, hq, he4⟩
  obtain ⟨M, hMe⟩ : ∃ M, M = x % y := ⟨_, rfl⟩
  rw [← hMe] at HOF hM ⊢
  have HME := Lib.hid hMe
  clear hMe
  have hw : IntKind.u64.wrap (M : Int) = (M : Int) := IntWalk.u64_in _ (by omega)
  go_wp2_with fail
  refine (HOF.out _).mono ?_
  rintro e w5 ⟨r, rfl, hr, he5⟩
  go_wp2_with fail
  refine bodyPost_ret (v := .tuple #[q, r, .bool true]) (by simp [results, Tryz.results148, go_sem]) rfl ?_
  refine ⟨q, r, rfl, hq.ext he5, ?_, HX2.out.trans (he3.trans (he4.trans he5))⟩
  rw [← HME.out]; exact hr
set_option maxRecDepth 100000 in
set_option maxHeartbeats 1600000 in
theorem len32_ex (x : Int) (w : World) (h0 : 0 < x) (h1 : x ≤ 4294967295) :
  Calls Tryz.prog 116 #[.int .u32 x] w fun e w' => ∃ L : Nat, e = .returned (.int .i64 (L : Int)) ∧ LenIs x L ∧ w' = w := by
 by_cases g2 : 65536 ≤ x
 ·by_cases g3 : 256 ≤ x / 65536
  ·go_enter Tryz.func116, Tryz.ntmps116
   go_wp2_with fail
   go_ret
   exact len_fix (K := 24) (K' := 24) _ (by decide +kernel) rfl rfl (by omega) h0 (by omega) (by omega) (by omega)
  ·go_enter Tryz.func116, Tryz.ntmps116
   go_wp2_with fail
   go_ret
   exact len_fix (K := 16) (K' := 16) _ (by decide +kernel) rfl rfl (by omega) h0 (by omega) (by omega) (by omega)
 ·by_cases g3 : 256 ≤ x
  ·go_enter Tryz.func116, Tryz.ntmps116
   go_wp2_with fail
   go_ret
   exact len_fix (K := 8) (K' := 8) _ (by decide +kernel) rfl rfl (by omega) h0 (by omega) (by omega) (by omega)
  ·go_enter Tryz.func116, Tryz.ntmps116
   go_wp2_with fail
   go_ret
   exact len_fix0 _ (by decide +kernel) rfl h0 (by omega) rfl
/- the shift that brings the highest bit to its place -/
def NormS (x s : Nat) : Prop := s ≤ 31 ∧ 2147483648 ≤ x * 2 ^ s ∧ x * 2 ^ s < 4294967296
theorem lz32_any (x : Nat) (w : World) (h0 : 0 < x) (h1 : x < 4294967296) :
  Calls Tryz.prog 157 #[.int .u32 (x : Int)] w fun e w' => ∃ s : Nat, e = .returned (.int .i64 (s : Int)) ∧ NormS x s ∧ w' = w := by
 go_enter Tryz.func157, Tryz.ntmps157
 go_wp2_with fail
 refine (len32_ex (x : Int) _ (by omega) (by omega)).mono ?_
 rintro e w1 ⟨L, rfl, ⟨a1, a2, a3, a4⟩, rfl⟩
 rw [Int.toNat_natCast] at a2 a4
 have hL : L ≤ 32 := by
  rcases Nat.lt_or_ge 32 L with h | h
  ·have : 2 ^ 32 ≤ 2 ^ (L - 1) := Nat.pow_le_pow_right (by omega) (by omega)
   omega
  ·exact h
 have HN : Hid (NormS x (32 - L)) := by
  have e1 : 2 ^ L * 2 ^ (32 - L) = 4294967296 := by rw [← Nat.pow_add, show L + (32 - L) = 32 by omega]
  have e2 : 2 ^ (L - 1) * 2 ^ (32 - L) = 2147483648 := by rw [← Nat.pow_add, show L - 1 + (32 - L) = 31 by omega]
  refine ⟨by omega, ?_, ?_⟩
  ·rw [← e2]; exact Nat.mul_le_mul_right _ a4
  ·rw [← e1]; exact Nat.mul_lt_mul_of_pos_right a2 (Nat.two_pow_pos _)
 have hw : IntKind.i64.wrap (32 - (L : Int)) = ((32 - L : Nat) : Int) := by rw [IntWalk.i64_in _ (by omega)]; omega
 clear a1 a2 a4
 go_wp2_with fail
 go_ret
 exact ⟨32 - L, ret_int (by omega), HN.out, rfl⟩
theorem bits_or_u32_nat (a b : Nat) (ha : a < 4294967296) (hb : b < 4294967296) : bits .or .u32 (a : Int) (b : Int) = ((a ||| b : Nat) : Int) := by
 have hx : a ||| b < 2 ^ 32 := Nat.or_lt_two_pow (by omega) (by omega)
 have h1 : (BitVec.ofInt 32 (a : Int)).toNat = a := by
  rw [BitVec.ofInt_natCast, BitVec.toNat_ofNat]; exact Nat.mod_eq_of_lt (by omega)
 have h2 : (BitVec.ofInt 32 (b : Int)).toNat = b := by
  rw [BitVec.ofInt_natCast, BitVec.toNat_ofNat]; exact Nat.mod_eq_of_lt (by omega)
 show IntKind.u32.wrap ((BitVec.ofInt 32 (a : Int) ||| BitVec.ofInt 32 (b : Int)).toNat : Int) = _
 rw [BitVec.toNat_or, h1, h2]
 exact IntWalk.u32_in _ (by omega)
theorem u64_shlN (a k : Nat) (h : a * 2 ^ k < 18446744073709551616) : IntKind.u64.wrap ((a : Int) * 2 ^ k) = ((a * 2 ^ k : Nat) : Int) := by
 have e : ((a : Int) * 2 ^ k) = ((a * 2 ^ k : Nat) : Int) := by simp
 rw [e]
 exact IntWalk.u64_in _ (by omega)
def RetLf (w : World) (a : List Nat) (s n : Nat) (e : Ending) (w' : World) : Prop := ∃ g r, e = .returned (.slice (some ⟨g, 0, none⟩) (n + 1) (n + 1)) ∧ Blk 192 w' g (ucells r) ∧ w.heap.size ≤ g ∧ r.length = n + 1 ∧ LimOk r ∧ natL r = natL a * 2 ^ s ∧ gN r n < 2 ^ s ∧ Ext w w'
set_option maxRecDepth 100000 in
set_option maxHeartbeats 1600000 in
theorem left_any (A : Option Addr) (n c s : Nat) (a : List Nat) (w : World) (ha : LimsAt w A a) (hok : LimOk a) (hl : a.length = n) (hn : n ≤ 1000) (hs : s ≤ 31) :
  Calls Tryz.prog 158 #[.slice A n c, .int .i64 (s : Int)] w (RetLf w a s n) := by
 have HA := Lib.hid ha; have HK := Lib.hid hok; have HL := Lib.hid hl
 clear ha hok hl
 have hmk := make_lims (n + 1) (by omega)
 have hw1 : IntKind.i64.wrap ((n : Int) + 1) = (n : Int) + 1 := IntWalk.i64_in _ (by omega)
 rw [show ((n + 1 : Nat) : Int) = (n : Int) + 1 by omega] at hmk
 go_enter Tryz.func158, Tryz.ntmps158
 go_wp2_with fail
 refine wp_at fun w1 hw1 => ?_
 have HB1 : Hid (Blk 192 w1 w.heap.size (ucells (List.replicate (n + 1) 0))) := by show Blk _ _ _ _; rw [hw1]; exact Blk.new _ _ _
 have HX1 : Hid (Ext w w1) := by show Ext _ _; rw [hw1]; exact (Ext.refl _).alloc _
 clear hw1 hmk
 go_loopw [15] (fun i wr => ∃ (k : Nat) (r : List Nat), k ≤ n ∧ i = .int .i64 (k : Int) ∧ ShlI a r s k ∧ Blk 192 wr w.heap.size (ucells r) ∧ Ext w wr) (fun i _ => n - (intOf i).toNat)
 case atStart => exact ⟨0, _, Nat.zero_le _, rfl, by have h := ShlI.zero a s; rw [HL.out] at h; exact h, HB1.out, HX1.out⟩
 case round =>
  obtain ⟨k, r, hk, rfl, hi, hb, hx⟩ := hrel
  have HI := Lib.hid hi; have HB := Lib.hid hb; have HX := Lib.hid hx
  have HRL : Hid (r.length = n + 1) := by show _ = _; rw [hi.len, HL.out]
  clear hi hb hx
  by_cases hlt : k < n
  ·obtain ⟨ba, oa, rfl, q0⟩ := (HA.out.ext HX.out) k (by rw [HL.out]; exact hlt)
   have hxb := gN_lt HK.out k
   have HST := Lib.hid (HI.out.step (by rw [HL.out]; exact hlt) HK.out hs)
   have hcb := HI.out.c
   obtain ⟨X, hX⟩ : ∃ X, X = gN a k := ⟨_, rfl⟩
   rw [← hX] at q0 hxb HST
   clear hX
   obtain ⟨C, hC⟩ : ∃ C, C = gN r k := ⟨_, rfl⟩
   have b0 : wr.cell? ⟨w.heap.size, k, none⟩ = some (.int .u32 (C : Int)) := by rw [HB.out.cell, ucells_get (by rw [HRL.out]; omega), hC]
   rw [← hC] at hcb HST
   clear hC
   have hP : X * 2 ^ s < 18446744073709551616 := by
    have h31 : 2 ^ s ≤ 2147483648 := Nat.pow_le_pow_right (by omega) hs
    have := Nat.mul_le_mul (show X ≤ 4294967295 by omega) h31
    omega
   have hsh := u64_shlN X s hP
   obtain ⟨Y, hY⟩ : ∃ Y, Y = X * 2 ^ s := ⟨_, rfl⟩
   rw [← hY] at hsh hP HST
   have hor : bits .or .u32 (C : Int) ((Y % 4294967296 : Nat) : Int) = ((C + Y % 4294967296 : Nat) : Int) := by
    have h1 := shl_or_low (x := X) hs hcb
    have h2 := low_bd (x := X) hs
    rw [← hY] at h1 h2
    rw [← h1]
    exact bits_or_u32_nat _ _ (by omega) (by omega)
   clear hY
   have HOR : Hid (bits .or .u32 (C : Int) ((Y : Int) % 4294967296) = ((C + Y % 4294967296 : Nat) : Int)) := by show _ = _; rw [← hor]; rfl
   clear hor
   have b1 : wr.cell? ⟨w.heap.size, k + 1, none⟩ = some (.int .u32 (gN r (k + 1) : Int)) := by rw [HB.out.cell, ucells_get (by rw [HRL.out]; omega)]
   have f0 := HB.out.frozen k
   have f1 := HB.out.frozen (k + 1)
   have hbl : w.heap.size < wr.heap.size := HB.out.lt
   have hk1 : (k : Int) < (n : Int) := by omega
   have hk2 : (k : Int) < (n : Int) + 1 := by omega
   have hk3 : (k : Int) + 1 < (n : Int) + 1 := by omega
   have hk4 : ((k : Int) + 1).toNat = k + 1 := by omega
   go_wp2_with fail
   go_roundw
   case rel =>
    refine ⟨k + 1, _, by omega, by go_num, HST.out, ?_, ?_⟩
    ·have h := (HB.out.set k (.int .u32 (bits .or .u32 (C : Int) ((Y : Int) % 4294967296)))).set (k + 1) (.int .u32 ((Y : Int) / 4294967296))
     rw [HOR.out, show (Y : Int) / 4294967296 = ((Y / 4294967296 : Nat) : Int) from rfl, ucells_set, ucells_set] at h
     rw [HOR.out]
     exact h
    ·exact Ext.setCell (p := ⟨w.heap.size, k + 1, none⟩) (Ext.setCell (p := ⟨w.heap.size, k, none⟩) HX.out (Nat.le_refl _) _) (Nat.le_refl _) _
   case measure => simp [intOf]; omega
  ·obtain rfl : k = n := by omega
   have HD : Hid (natL r = natL a * 2 ^ s) := by show _ = _; have h := HI.out; rw [← HL.out] at h; exact h.done
   go_wp2_with fail
   go_ret
   exact ⟨_, r, rfl, HB.out, Nat.le_refl _, HRL.out, HI.out.ok, HD.out, HI.out.c, HX.out⟩
set_option maxRecDepth 100000 in
set_option maxHeartbeats 1600000 in
theorem nright_any (A : Option Addr) (n c s : Nat) (a : List Nat) (w : World) (ha : LimsAt w A a) (hok : LimOk a) (hl : a.length = n) (hn : n ≤ 1000) (hs : s ≤ 31) :
  Calls Tryz.prog 160 #[.slice A n c, .int .i64 (s : Int)] w (RetNt w (natL a / 2 ^ s)) := by
 have HA := Lib.hid ha; have HK := Lib.hid hok; have HL := Lib.hid hl
 clear ha hok hl
 have hmk := make_lims n (by omega)
 go_enter Tryz.func160, Tryz.ntmps160
 go_wp2_with fail
 refine wp_at fun w1 hw1 => ?_
 have HB1 : Hid (Blk 192 w1 w.heap.size (ucells (List.replicate n 0))) := by show Blk _ _ _ _; rw [hw1]; exact Blk.new _ _ _
 have HX1 : Hid (Ext w w1) := by show Ext _ _; rw [hw1]; exact (Ext.refl _).alloc _
 clear hw1 hmk
 go_loopw [14] (fun i wr => ∃ (k : Nat) (r : List Nat), k ≤ n ∧ i = .int .i64 (k : Int) ∧ r.length = n ∧ LimOk r ∧ (∀ j, j < k → gN r j = shrN a s j) ∧ Blk 192 wr w.heap.size (ucells r) ∧ Ext w wr) (fun i _ => n - (intOf i).toNat)
 case atStart => exact ⟨0, _, Nat.zero_le _, rfl, by simp, fun x hx => by rw [List.eq_of_mem_replicate hx]; omega, fun j hj => absurd hj (Nat.not_lt_zero _), HB1.out, HX1.out⟩
 case round =>
  obtain ⟨k, r, hk, rfl, hrl, hro, hrj, hb, hx⟩ := hrel
  have HRL := Lib.hid hrl; have HRO := Lib.hid hro; have HRJ := Lib.hid hrj; have HB := Lib.hid hb; have HX := Lib.hid hx
  clear hrl hro hrj hb hx
  by_cases hlt : k < n
  ·obtain ⟨ba, oa, rfl, q0⟩ := (HA.out.ext HX.out) k (by rw [HL.out]; exact hlt)
   have hxb := gN_lt HK.out k
   have hxb' := gN_lt HK.out (k + 1)
   have HSH : Hid (shrN a s k = ((gN a k + gN a (k + 1) * 4294967296) / 2 ^ s) % 4294967296) := rfl
   have HZ : Hid (¬ k + 1 < n → gN a (k + 1) = 0) := fun h => by unfold gN; rw [List.getD_eq_getElem?_getD, List.getElem?_eq_none (by rw [HL.out]; omega)]; rfl
   obtain ⟨X, hX⟩ : ∃ X, X = gN a k := ⟨_, rfl⟩
   obtain ⟨Y, hY⟩ : ∃ Y, Y = gN a (k + 1) := ⟨_, rfl⟩
   rw [← hX] at q0 hxb HSH
   rw [← hY] at hxb' HSH HZ
   have HY := Lib.hid hY
   clear hX hY
   have b0 : wr.cell? ⟨w.heap.size, k, none⟩ = some (.int .u32 (gN r k : Int)) := by rw [HB.out.cell, ucells_get (by rw [HRL.out]; omega)]
   have f0 := HB.out.frozen k
   have hbl : w.heap.size < wr.heap.size := HB.out.lt
   have hk1 : (k : Int) < (n : Int) := by omega
   have hk4 : ((k : Int) + 1).toNat = k + 1 := by omega
   have HREL : Hid (∀ Z : Nat, Z = (X + Y * 4294967296) / 2 ^ s → ∃ (k' : Nat) (r' : List Nat), k' ≤ n ∧ Value.int .i64 ((k : Int) + 1) = .int .i64 (k' : Int) ∧ r'.length = n ∧ LimOk r' ∧ (∀ j, j < k' → gN r' j = shrN a s j) ∧ Blk 192 (wr.setCell ⟨w.heap.size, k, none⟩ (.int .u32 ((Z % 4294967296 : Nat) : Int))) w.heap.size (ucells r') ∧ Ext w (wr.setCell ⟨w.heap.size, k, none⟩ (.int .u32 ((Z % 4294967296 : Nat) : Int)))) := fun Z hZ => by
    refine ⟨k + 1, r.set k (Z % 4294967296), by omega, by go_num, by rw [List.length_set]; exact HRL.out, limOk_set HRO.out (Nat.mod_lt _ (by omega)), fun j hj => ?_, ?_, Ext.setCell (p := ⟨w.heap.size, k, none⟩) HX.out (Nat.le_refl _) _⟩
    ·by_cases e : j = k
     ·subst e
      rw [gN_eq (by rw [List.length_set, HRL.out]; exact hlt)]
      rw [HSH.out, ← hZ]; simp
     ·rw [gN_set_ne (Ne.symm e)]; exact HRJ.out j (by omega)
    ·have h := HB.out.set k (.int .u32 ((Z % 4294967296 : Nat) : Int))
     rw [ucells_set] at h
     exact h
   by_cases h1 : k + 1 < n
   ·obtain ⟨ba', oa', e1, q1⟩ := (HA.out.ext HX.out) (k + 1) (by rw [HL.out]; exact h1)
    injection e1 with e1
    injection e1 with e1 e2
    subst e1 e2
    rw [← HY.out] at q1
    have hk3 : (k : Int) + 1 < (n : Int) := by omega
    have hsh : IntKind.u64.wrap ((Y : Int) * 4294967296) = ((Y * 4294967296 : Nat) : Int) := by
     rw [show (Y : Int) * 4294967296 = ((Y * 4294967296 : Nat) : Int) by omega]; exact IntWalk.u64_in _ (by omega)
    have HOR : Hid (bits .or .u64 (X : Int) ((Y : Int) * 4294967296) = ((X + Y * 4294967296 : Nat) : Int)) := by
     show _ = _
     have h := or_limb Y X hxb' hxb
     rw [show (Y : Int) * 4294967296 = ((Y * 4294967296 : Nat) : Int) by omega] at h ⊢
     rw [bits_or_u64_nat _ _ (by omega) (by omega)] at h ⊢
     rw [Nat.or_comm, h, Nat.add_comm]
    go_wp2_with fail
    go_roundw
    case rel =>
     have e : (bits .or .u64 (X : Int) ((Y : Int) * 4294967296) / 2 ^ s % 4294967296 : Int) = (((X + Y * 4294967296) / 2 ^ s % 4294967296 : Nat) : Int) := by rw [HOR.out]; simp
     rw [e]
     exact HREL.out _ rfl
    case measure => simp [intOf]; omega
   ·have hk3 : ¬ (k : Int) + 1 < (n : Int) := by omega
    have HY0 : Hid (Y = 0) := HZ.out h1
    go_wp2_with fail
    go_roundw
    case rel =>
     have e : ((X : Int) / 2 ^ s % 4294967296 : Int) = ((X / 2 ^ s % 4294967296 : Nat) : Int) := by simp
     rw [e]
     exact HREL.out _ (by rw [HY0.out]; simp)
    case measure => simp [intOf]; omega
  ·obtain rfl : k = n := by omega
   have HD : Hid (natL r = natL a / 2 ^ s) := by show _ = _; exact shr_all hs a r HK.out (by rw [HRL.out, HL.out]) (fun j hj => HRJ.out j (by rw [← HL.out]; exact hj))
   have hT := trim_any (some ⟨w.heap.size, 0, none⟩) k k r wr (lims_blk (R := []) (by rw [List.append_nil]; exact HB.out)) HRO.out HRL.out (Nat.le_refl _) (by omega)
   rw [HD.out] at hT
   have HT := Lib.hid hT
   clear hT
   go_wp2_with fail
   refine (HT.out).mono ?_
   rintro e w2 ⟨v, rfl, hv, he2⟩
   go_wp2_with fail
   go_ret
   exact ⟨v, rfl, hv, HX.out.trans he2⟩
theorem cellU {w : World} {g i k : Nat} {pre u : List Nat} (h : Blk 192 w g (ucells (pre ++ u))) (hp : pre.length = i) (hk : k < u.length) : w.cell? ⟨g, i + k, none⟩ = some (.int .u32 (gN u k : Int)) := by
 rw [h.cell, ucells_append, List.getElem?_append_right (by rw [ucells_length]; omega), ucells_length, hp, Nat.add_sub_cancel_left, ucells_get hk]
theorem setU {w : World} {g i : Nat} {pre u : List Nat} (h : Blk 192 w g (ucells (pre ++ u))) (hp : pre.length = i) (k x : Nat) : Blk 192 (w.setCell ⟨g, i + k, none⟩ (.int .u32 (x : Int))) g (ucells (pre ++ u.set k x)) := by
 have h1 := h.set (i + k) (.int .u32 (x : Int))
 rw [ucells_set, ← hp, List.set_append_right _ _ (by omega), Nat.add_sub_cancel_left] at h1
 rw [← hp]
 exact h1
theorem limsK {K : Nat → Prop} {w w' : World} {A : Option Addr} {l : List Nat} (h : LimsAt w A l) (he : Kept K w w') (hK : ∀ b off, A = some ⟨b, off, none⟩ → ¬ K b) : LimsAt w' A l := fun k hk => by
 obtain ⟨b, off, e, h0⟩ := h k hk
 exact ⟨b, off, e, (World.cell?_of_block (he.block b (cell_lt h0) (hK b off e))).trans h0⟩
/- the words of the estimate -/
theorem natL_top2 {l : List Nat} {m : Nat} : natL (l.take (m + 2)) = natL (l.take m) + 4294967296 ^ m * (gN l (m + 1) * 4294967296 + gN l m) := by
 rw [natL_take_full, natL_take_full, Nat.pow_succ]
 generalize 4294967296 ^ m = P
 rw [Nat.mul_add, Nat.mul_assoc P, Nat.mul_comm 4294967296]
 omega
theorem natL_top3 {l : List Nat} {m : Nat} : natL (l.take (m + 3)) = natL (l.take m) + 4294967296 ^ m * ((gN l (m + 2) * 4294967296 + gN l (m + 1)) * 4294967296 + gN l m) := by
 rw [natL_take_full, natL_top2, Nat.pow_succ, Nat.pow_succ]
 generalize 4294967296 ^ m = P
 rw [Nat.add_mul, Nat.mul_add P (gN l (m + 1) * 4294967296), Nat.mul_add P (gN l (m + 2) * 4294967296 * 4294967296 + gN l (m + 1) * 4294967296), Nat.mul_add P (gN l (m + 2) * 4294967296 * 4294967296)]
 have e : P * 4294967296 * 4294967296 * gN l (m + 2) = P * (gN l (m + 2) * 4294967296 * 4294967296) := by
  rw [Nat.mul_assoc P, Nat.mul_assoc P, Nat.mul_comm (4294967296 * 4294967296), Nat.mul_assoc (gN l (m + 2))]
 omega
theorem take_lt {l : List Nat} (h : LimOk l) (m : Nat) : natL (l.take m) < 4294967296 ^ m := by
 have h1 := natL_lt (l := l.take m) (fun x hx => h x (List.mem_of_mem_take hx))
 rw [List.length_take] at h1
 exact Nat.lt_of_lt_of_le h1 (Nat.pow_le_pow_right (by omega) (Nat.min_le_left _ _))
theorem est_of {u v : List Nat} {m : Nat} (hu : LimOk u) (hv : LimOk v) (hvl : v.length = m + 2) (htop : 2147483648 ≤ gN v (m + 1)) (hlt : natL (u.take (m + 3)) < 4294967296 * natL v) :
  EsH (gN u (m + 2) * 4294967296 + gN u (m + 1)) (gN v (m + 1)) (gN v m) (gN u m) (4294967296 ^ m) (natL (u.take (m + 3))) (natL v) := by
 have hV : natL v = natL (v.take m) + 4294967296 ^ m * (gN v (m + 1) * 4294967296 + gN v m) := by
  rw [← natL_top2, natL_take_all (by omega)]
 have hU := natL_top3 (l := u) (m := m)
 have a1 := take_lt hu m
 have a2 := take_lt hv m
 have g1 := gN_lt hu (m + 2); have g2 := gN_lt hu (m + 1)
 refine ⟨htop, gN_lt hv _, gN_lt hv _, gN_lt hu _, by omega, Nat.pow_pos (by omega), ?_, ?_, ?_, ?_, hlt⟩
 ·rw [hV, Nat.mul_comm]; omega
 ·rw [hV, Nat.add_mul, Nat.one_mul, Nat.mul_comm (4294967296 ^ m)]; omega
 ·rw [hU, Nat.mul_comm]; omega
 ·rw [hU, Nat.add_mul _ 1 (4294967296 ^ m), Nat.one_mul, Nat.mul_comm _ (4294967296 ^ m)]; omega
theorem gN_set_eq {r : List Nat} {j x : Nat} (h : j < r.length) : gN (r.set j x) j = x := by simp [gN, h]
theorem sub_wrap {X t b : Nat} (hX : X < 4294967296) (ht : t < 4294967296) (hb : b ≤ 1) : ∃ D1 D : Nat, IntKind.u64.wrap ((X : Int) - (t : Int)) = (D1 : Int) ∧ IntKind.u64.wrap ((D1 : Int) - (b : Int)) = (D : Int) ∧ D < 18446744073709551616 ∧ D % 4294967296 = (X + 2 * 4294967296 - t - b) % 4294967296 ∧ D / 9223372036854775808 = (if X < t + b then 1 else 0) := by
 refine ⟨(X + 18446744073709551616 - t) % 18446744073709551616, (X + 2 * 18446744073709551616 - t - b) % 18446744073709551616, ?_, ?_, by omega, by omega, ?_⟩
 ·rw [IntKind.wrap_u64]; omega
 ·rw [IntKind.wrap_u64]; omega
 ·split <;> omega
def RetDg (w : World) (g : Nat) (pre u v : List Nat) (n : Nat) (e : Ending) (w' : World) : Prop :=
 ∃ u', e = .returned (.int .u32 ((natL (u.take (n + 1)) / natL v : Nat) : Int)) ∧ Blk 192 w' g (ucells (pre ++ u')) ∧ u'.length = u.length ∧ LimOk u' ∧ (∀ j, n < j → gN u' j = gN u j) ∧ natL (u'.take (n + 1)) = natL (u.take (n + 1)) % natL v ∧ Kept (fun b => b = g) w w'
set_option maxRecDepth 100000 in
set_option maxHeartbeats 3200000 in
theorem digit_any (g i m c1 cb : Nat) (B : Option Addr) (pre u v : List Nat) (w : World) (hu : Blk 192 w g (ucells (pre ++ u))) (hpre : pre.length = i) (hku : LimOk u) (hul : m + 3 ≤ u.length) (hv : LimsAt w B v) (hkv : LimOk v) (hvl : v.length = m + 2) (hm : m ≤ 1000)
  (htop : 2147483648 ≤ gN v (m + 1)) (hlt : natL (u.take (m + 3)) < 4294967296 * natL v) (hB : ∀ b off, B = some ⟨b, off, none⟩ → b ≠ g) :
  Calls Tryz.prog 159 #[.slice (some ⟨g, i, none⟩) (m + 3) c1, .slice B (m + 2) cb] w (RetDg w g pre u v (m + 2)) := by
 have HE := Lib.hid (est_of hku hkv hvl htop hlt)
 have HU := Lib.hid hu; have HP := Lib.hid hpre; have HKU := Lib.hid hku; have HUL := Lib.hid hul; have HV := Lib.hid hv; have HKV := Lib.hid hkv; have HVL := Lib.hid hvl; have HNB := Lib.hid hB
 have ht := htop
 clear hu hpre hku hul hv hkv hvl htop hlt hB
 have gb : g < w.heap.size := HU.out.lt
 obtain ⟨bv, ov, rfl, v1⟩ := HV.out (m + 1) (by rw [HVL.out]; omega)
 obtain ⟨bv', ov', hbv, v0⟩ := HV.out m (by rw [HVL.out]; omega)
 injection hbv with hbv
 injection hbv with hb1 hb2
 subst hb1 hb2
 have u2 := cellU HU.out HP.out (k := m + 2) (by have := HUL.out; omega)
 have u1 := cellU HU.out HP.out (k := m + 1) (by have := HUL.out; omega)
 have u0 := cellU HU.out HP.out (k := m) (by have := HUL.out; omega)
 have gu2 := gN_lt HKU.out (m + 2); have gu1 := gN_lt HKU.out (m + 1); have gu0 := gN_lt HKU.out m; have gv1 := gN_lt HKV.out (m + 1); have gv0 := gN_lt HKV.out m
 obtain ⟨U2, hU2⟩ : ∃ X, X = gN u (m + 2) := ⟨_, rfl⟩
 obtain ⟨U1, hU1⟩ : ∃ X, X = gN u (m + 1) := ⟨_, rfl⟩
 obtain ⟨U0, hU0⟩ : ∃ X, X = gN u m := ⟨_, rfl⟩
 obtain ⟨V1, hV1⟩ : ∃ X, X = gN v (m + 1) := ⟨_, rfl⟩
 obtain ⟨V0, hV0⟩ : ∃ X, X = gN v m := ⟨_, rfl⟩
 rw [← hU2] at u2 gu2 HE
 rw [← hU1] at u1 gu1 HE
 rw [← hU0] at u0 gu0 HE
 rw [← hV1] at v1 gv1 HE ht
 rw [← hV0] at v0 gv0 HE
 have HU2 := Lib.hid hU2; have HU1 := Lib.hid hU1; have HU0 := Lib.hid hU0; have HV1 := Lib.hid hV1; have HV0 := Lib.hid hV0
 clear hU2 hU1 hU0 hV1 hV0
 have HM := Lib.hid hm
 obtain ⟨n, hn⟩ : ∃ n, n = m + 2 := ⟨_, rfl⟩
 obtain ⟨N, hN⟩ : ∃ N, N = m + 3 := ⟨_, rfl⟩
 obtain ⟨p, hp⟩ : ∃ p, p = m + 1 := ⟨_, rfl⟩
 have HN : Hid (n = m + 2 ∧ N = m + 3 ∧ p = m + 1) := ⟨hn, hN, hp⟩
 have HRT : Hid (∀ e w', RetDg w g pre u v n e w' → RetDg w g pre u v (m + 2) e w') := fun e w' h => by rw [← hn]; exact h
 refine Calls.mono ?_ HRT.out
 rw [← hn] at u2 HVL ⊢
 rw [← hN] at HUL ⊢
 rw [← hp] at u1 v1
 have hw2 : IntKind.i64.wrap ((n : Int) - 1) = (p : Int) := by rw [IntWalk.i64_in _ (by omega)]; omega
 have hw3 : IntKind.i64.wrap ((n : Int) - 2) = (m : Int) := by rw [IntWalk.i64_in _ (by omega)]; omega
 have a1 : (n : Int) < (N : Int) := by omega
 have a2 : (p : Int) < (N : Int) := by omega
 have a3 : (p : Int) < (n : Int) := by omega
 have a4 : (m : Int) < (N : Int) := by omega
 have a5 : (m : Int) < (n : Int) := by omega
 clear hn hN hp HRT hm
 obtain ⟨T, hT⟩ : ∃ T, T = U2 * 4294967296 + U1 := ⟨_, rfl⟩
 have hor : bits .or .u64 ((U2 : Int) * 4294967296) (U1 : Int) = (T : Int) := by rw [hT]; exact or_limb U2 U1 gu2 gu1
 have hTB : T < 18446744073709551616 := by rw [hT]; omega
 rw [← hT] at HE
 have hsh : IntKind.u64.wrap ((U2 : Int) * 4294967296) = (U2 : Int) * 4294967296 := IntWalk.u64_in _ (by omega)
 have hvz : ((V1 : Int) == 0) = false := by simp; omega
 obtain ⟨Q0, hQ0⟩ : ∃ Q, Q = T / V1 := ⟨_, rfl⟩
 obtain ⟨R0, hR0⟩ : ∃ R, R = T % V1 := ⟨_, rfl⟩
 have hq1 : (T : Int) / (V1 : Int) = (Q0 : Int) := by rw [hQ0]; rfl
 have hq2 : (T : Int) % (V1 : Int) = (R0 : Int) := by rw [hR0]; rfl
 have hQB : Q0 ≤ 18446744073709551615 := by rw [hQ0]; exact Nat.le_trans (Nat.div_le_self _ _) (by omega)
 have hRB : R0 < V1 := by rw [hR0]; exact Nat.mod_lt _ (by omega)
 have hq3 : IntKind.u64.wrap (Q0 : Int) = (Q0 : Int) := IntWalk.u64_in _ (by omega)
 have hq4 : IntKind.u64.wrap (R0 : Int) = (R0 : Int) := IntWalk.u64_in _ (by omega)
 obtain ⟨UU, hUU⟩ : ∃ X, X = natL (u.take N) := ⟨_, rfl⟩
 obtain ⟨VV, hVV⟩ : ∃ X, X = natL v := ⟨_, rfl⟩
 have HUU : Hid (UU = natL (u.take N)) := hUU
 have HVV : Hid (VV = natL v) := hVV
 have HE2 : Hid (EsH T V1 V0 U0 (4294967296 ^ m) UU VV) := by
  show EsH _ _ _ _ _ _ _
  rw [hUU, hVV, HN.out.2.1]
  exact HE.out
 have HI0 : Hid (EsI T V1 UU VV Q0 R0) := by show EsI _ _ _ _ _ _; rw [hQ0, hR0]; exact HE2.out.start
 clear hT hQ0 hR0 hUU hVV HE
 go_enter Tryz.func159, Tryz.ntmps159
 go_upto_region 2 with fail
 go_quiet (fail)
 go_upto_region 3 with fail
 go_quiet (fail)
 have HQ2 : Hid ((T : Int) % (V1 : Int) = (R0 : Int)) := hq2
 clear u2 u1 v1 hor hsh hvz hq1 hq2 hq3 hq4
 go_wp2_with fail
 refine wp_at fun w1 hw1 => ?_
 have HX1 : Hid (Ext w w1) := by show Ext _ _; rw [hw1]; exact (Ext.refl _).drewN _
 clear hw1
 go_loopw [8, 9] (fun q r wr => ∃ (Q R : Nat), q = .int .u64 (Q : Int) ∧ r = .int .u64 (R : Int) ∧ EsI T V1 UU VV Q R ∧ R < 8589934592 ∧ Ext w wr) (fun q _ _ => (intOf q).toNat)
 case atStart => exact ⟨Q0, R0, rfl, by rw [HQ2.out], HI0.out, by omega, HX1.out⟩
 case round =>
  obtain ⟨wq, rfl⟩ : ∃ wq : World, wq = wr := ⟨_, rfl⟩
  obtain ⟨Q, R, rfl, rfl, hi, hr, hx⟩ := hrel
  have HI := Lib.hid hi; have HX := Lib.hid hx
  have hqb := hi.q_le HE2.out
  clear hi hx
  have hnext : (R < 4294967296 → 4294967296 ≤ Q ∨ R * 4294967296 + U0 < Q * V0 → R < 4294967296 ∧ 1 ≤ Q ∧ EsI T V1 UU VV (Q - 1) (R + V1)) := fun h1 h2 => ⟨h1, HI.out.step HE2.out (by rcases h2 with h | h; exact .inl h; exact .inr h)⟩
  have HNX := Lib.hid hnext
  clear hnext
  by_cases c1 : (R : Int) < 4294967296
  rotate_left
  ·have HEX : Hid (Q < 4294967296 ∧ UU / VV ≤ Q ∧ Q ≤ UU / VV + 1) := HI.out.exit HE2.out (.inl (by omega))
   have hqB : Q < 4294967296 := HEX.out.1
   have hnb : n ≤ 1100 := by have := HM.out; have := HN.out.1; omega
   go_upto_region 4 with fail
   go_quiet (fail)
   clear c1
   go_wp2_with fail
   go_loopw [10, 11, 78] (fun ca bo i wr => ∃ (k c b : Nat) (r : List Nat), k ≤ n ∧ i = .int .i64 k ∧ ca = .int .u64 (c : Int) ∧ bo = .int .u64 (b : Int) ∧ Blk 192 wr g (ucells (pre ++ r)) ∧ MsI u v r Q k c b ∧ Kept (fun x => x = g) w wr) (fun _ _ i _ => n - (intOf i).toNat)
   case atStart => exact ⟨0, 0, 0, u, Nat.zero_le _, rfl, rfl, rfl, HU.out.ext (HX.out.trans ((Ext.refl _).drewN _)), MsI.zero v Q HKU.out, (HX.out.trans ((Ext.refl _).drewN _)).kept _⟩
   case round =>
    obtain ⟨wq2, rfl⟩ : ∃ wq2 : World, wq2 = wr := ⟨_, rfl⟩
    obtain ⟨k, c, b, r, hk, rfl, rfl, rfl, hb, hi, hx⟩ := hrel
    have HB2 := Lib.hid hb; have HI2 := Lib.hid hi; have HK2 := Lib.hid hx
    have HRL : Hid (r.length = u.length) := hi.len
    have hcb := hi.c1; have hbb := hi.b1
    clear hb hi hx
    by_cases hlt : k < n
    ·obtain ⟨bv2, ov2, hbv, y0⟩ := (limsK HV.out HK2.out HNB.out) k (by rw [HVL.out]; exact hlt)
     injection hbv with hbv
     injection hbv with hb1 hb2
     subst hb1 hb2
     have hk0 : (0 : Int) ≤ k := by omega
     have hk1 : (k : Int) < n := by omega
     have hk2 : (k : Int) < N := by omega
     have hkl : k < r.length := by rw [HRL.out]; have := HUL.out; omega
     have c0 := cellU HB2.out HP.out hkl
     have f0 := HB2.out.frozen (i + k)
     have gX := gN_lt HKU.out k; have gY := gN_lt HKV.out k
     rw [HI2.out.rest k (Nat.le_refl _)] at c0
     have HST := Lib.hid (HI2.out.step (by have := HUL.out; omega) HKU.out HKV.out hqB)
     have hbd := HI2.out.bd hqB HKV.out
     obtain ⟨X, hX⟩ : ∃ X, X = gN u k := ⟨_, rfl⟩
     obtain ⟨Y, hY⟩ : ∃ Y, Y = gN v k := ⟨_, rfl⟩
     rw [← hX] at c0 gX HST
     rw [← hY] at y0 gY HST hbd
     clear hX hY
     obtain ⟨P, hP⟩ : ∃ P, P = Q * Y := ⟨_, rfl⟩
     rw [← hP] at HST hbd
     have hPI : (Q : Int) * (Y : Int) = (P : Int) := by rw [hP]; rfl
     obtain ⟨T2, hT2⟩ : ∃ T, T = c + P := ⟨_, rfl⟩
     rw [← hT2] at HST hbd
     have hw0 : IntKind.u64.wrap (X : Int) = (X : Int) := IntWalk.u64_in _ (by omega)
     have hw1 : IntKind.u64.wrap (Y : Int) = (Y : Int) := IntWalk.u64_in _ (by omega)
     have hw4 : IntKind.u64.wrap (P : Int) = (P : Int) := IntWalk.u64_in _ (by omega)
     have hw5 : IntKind.u64.wrap ((c : Int) + (P : Int)) = (T2 : Int) := by rw [IntWalk.u64_in _ (by omega)]; omega
     obtain ⟨t, htt⟩ : ∃ t, t = T2 % 4294967296 := ⟨_, rfl⟩
     have hti : (T2 : Int) % 4294967296 = (t : Int) := by omega
     have htb : t < 4294967296 := by omega
     have hw6 : IntKind.u64.wrap (t : Int) = (t : Int) := IntWalk.u64_in _ (by omega)
     have hw7 : IntKind.u32.wrap (T2 : Int) = (t : Int) := by rw [IntKind.wrap_u32]; omega
     rw [← htt] at HST
     obtain ⟨D1, D, hd1, hd2, hd3, hd4, hd5⟩ := sub_wrap gX htb hbb
     rw [← hd4, ← hd5] at HST
     clear hd4 hd5 hP hT2 htt
     have HTB := Lib.hid hbd; have HD3 := Lib.hid hd3
     go_wp2_with fail
     go_roundw
     case rel => exact ⟨k + 1, T2 / 4294967296, D / 9223372036854775808, r.set k (D % 4294967296), by omega, by go_num, rfl, rfl, setU HB2.out HP.out k _, HST.out, HK2.out.set (p := ⟨g, i + k, none⟩) (.inr rfl) _⟩
     case measure => simp [intOf]; omega
    ·obtain rfl : n = k := by omega
     have hk0 : (0 : Int) ≤ n := by omega
     have hkl : n < r.length := by rw [HRL.out]; have := HUL.out; omega
     have hul : n < u.length := by have := HUL.out; omega
     have HUl := Lib.hid hul
     have c0 := cellU HB2.out HP.out hkl
     have f0 := HB2.out.frozen (i + n)
     have gX := gN_lt HKU.out n
     rw [HI2.out.rest n (Nat.le_refl _)] at c0
     obtain ⟨X, hX⟩ : ∃ X, X = gN u n := ⟨_, rfl⟩
     rw [← hX] at c0 gX
     have HXE := Lib.hid hX
     clear hX
     have hw0 : IntKind.u64.wrap (X : Int) = (X : Int) := IntWalk.u64_in _ (by omega)
     obtain ⟨D1, D, hd1, hd2, hd3, hd4, hd5⟩ := sub_wrap gX hcb hbb
     have HUn : Hid (UU = natL (u.take (n + 1))) := by show _ = _; rw [HUU.out, HN.out.2.1, HN.out.1]
     obtain ⟨x, hx⟩ : ∃ x, x = D % 4294967296 := ⟨_, rfl⟩
     have hxi : IntKind.u32.wrap (D : Int) = (x : Int) := by rw [IntKind.wrap_u32]; omega
     have hxb : x < 4294967296 := by omega
     have HRT2 : Hid (∀ z, z < 4294967296 → LimOk (r.set n z)) := fun z hz => limOk_set HI2.out.ok hz
     by_cases hgd : c + b ≤ X
     ·obtain ⟨hq, hm⟩ := HI2.out.good HVL.out hul HUn.out HVV.out HE2.out.v0p HEX.out.2.1 (by rw [← HXE.out]; exact hgd)
      have hxe : x = gN u n - c - b := by rw [← HXE.out]; omega
      rw [← hxe] at hm
      have HM2 := Lib.hid hm; have HQ3 := Lib.hid hq
      have hd0 : (D : Int) / 9223372036854775808 = 0 := by rw [if_neg (by omega)] at hd5; omega
      have hwq : IntKind.u32.wrap (Q : Int) = (Q : Int) := IntWalk.u32_in _ (by omega)
      have HXB := Lib.hid hxb
      clear hd4 hd5 hx hq hm hxe
      go_wp2_with fail
      go_ret
      refine ⟨r.set n x, ?_, setU HB2.out HP.out n _, by rw [List.length_set, HRL.out], HRT2.out x HXB.out, fun j hj => by rw [gN_set_ne (by omega)]; exact HI2.out.rest j (by omega), ?_, HK2.out.set (p := ⟨g, i + n, none⟩) (.inr rfl) _⟩
      ·rw [← HUn.out, ← HVV.out, ← HQ3.out]
       rfl
      ·rw [← HUn.out, ← HVV.out]; exact HM2.out
     ·have hd0 : (D : Int) / 9223372036854775808 = 1 := by rw [if_pos (by omega)] at hd5; omega
      have HXV : Hid (x = (X + 2 * 4294967296 - c - b) % 4294967296) := hx.trans hd4
      have HGD := Lib.hid hgd
      clear hd4 hd5 hx
      go_wp2_with fail
      go_loopw [10, 131] (fun ca j wr => ∃ (p k : Nat) (s : List Nat), p ≤ n ∧ j = .int .i64 p ∧ ca = .int .u64 (k : Int) ∧ Blk 192 wr g (ucells (pre ++ s.set n x)) ∧ AbI r v s p k ∧ Kept (fun x => x = g) w wr) (fun _ j _ => n - (intOf j).toNat)
      case atStart => exact ⟨0, 0, r, Nat.zero_le _, rfl, rfl, setU HB2.out HP.out n _, AbI.zero v HI2.out.ok, HK2.out.set (p := ⟨g, i + n, none⟩) (.inr rfl) _⟩
      case round =>
       obtain ⟨wq3, rfl⟩ : ∃ wq3 : World, wq3 = wr := ⟨_, rfl⟩
       obtain ⟨p, k, s, hp, rfl, rfl, hb, hi, hx⟩ := hrel
       have HB3 := Lib.hid hb; have HI3 := Lib.hid hi; have HK3 := Lib.hid hx
       have HSL : Hid (s.length = r.length) := hi.len
       have hkb := hi.c1
       clear hb hi hx c0 f0
       by_cases hlt : p < n
       ·obtain ⟨bv2, ov2, hbv, y0⟩ := (limsK HV.out HK3.out HNB.out) p (by rw [HVL.out]; exact hlt)
        injection hbv with hbv
        injection hbv with hb1 hb2
        subst hb1 hb2
        have hp0 : (0 : Int) ≤ p := by omega
        have hp1 : (p : Int) < n := by omega
        have hp2 : (p : Int) < N := by omega
        have hpl : p < (s.set n x).length := by rw [List.length_set, HSL.out]; omega
        have c0 := cellU HB3.out HP.out hpl
        have f0 := HB3.out.frozen (i + p)
        have gZ := gN_lt HI2.out.ok p; have gY := gN_lt HKV.out p
        rw [gN_set_ne (by omega), HI3.out.rest p (Nat.le_refl _)] at c0
        have HST := Lib.hid (HI3.out.step (by omega) HI2.out.ok HKV.out)
        obtain ⟨Z, hZ⟩ : ∃ Z, Z = gN r p := ⟨_, rfl⟩
        obtain ⟨Y, hY⟩ : ∃ Y, Y = gN v p := ⟨_, rfl⟩
        rw [← hZ] at c0 gZ HST
        rw [← hY] at y0 gY HST
        clear hZ hY
        have hw1 : IntKind.u64.wrap (Z : Int) = (Z : Int) := IntWalk.u64_in _ (by omega)
        have hw2 : IntKind.u64.wrap (Y : Int) = (Y : Int) := IntWalk.u64_in _ (by omega)
        have hw4 : IntKind.u64.wrap ((Z : Int) + (Y : Int)) = (Z : Int) + Y := IntWalk.u64_in _ (by omega)
        obtain ⟨T3, hT3⟩ : ∃ T, T = k + (Z + Y) := ⟨_, rfl⟩
        rw [← hT3] at HST
        have hw5 : IntKind.u64.wrap ((k : Int) + ((Z : Int) + (Y : Int))) = (T3 : Int) := by rw [IntWalk.u64_in _ (by omega)]; omega
        clear hT3
        go_wp2_with fail
        go_roundw
        case rel =>
         refine ⟨p + 1, T3 / 4294967296, s.set p (T3 % 4294967296), by omega, by go_num, rfl, ?_, HST.out, HK3.out.set (p := ⟨g, i + p, none⟩) (.inr rfl) _⟩
         rw [List.set_comm _ _ (by omega)]
         exact setU HB3.out HP.out p _
        case measure => simp [intOf]; omega
       ·obtain rfl : n = p := by omega
        obtain ⟨hq, hm, hkk⟩ := HI3.out.done HI2.out HVL.out HUl.out HUn.out HVV.out HKV.out HE2.out.v0p HEX.out.2.2 (by rw [← HXE.out]; have := HGD.out; omega)
        rw [← HXE.out] at hkk
        have hk1 : k = 1 := by have := HGD.out; omega
        have hx1 : x = 4294967295 := by have := HXV.out; omega
        have hsl : n < (s.set n x).length := by rw [List.length_set, HSL.out]; exact hkl
        have c0 := cellU HB3.out HP.out hsl
        have f0 := HB3.out.frozen (i + n)
        rw [gN_set_eq (by rw [HSL.out]; exact hkl)] at c0
        subst hk1 hx1
        have hq1 : 1 ≤ Q := by rw [hq]; exact Nat.succ_le_succ (Nat.zero_le _)
        have hw1 : IntKind.u64.wrap ((Q : Int) - 1) = ((Q - 1 : Nat) : Int) := by rw [IntWalk.u64_in _ (by omega)]; omega
        have hw2 : IntKind.u32.wrap ((Q - 1 : Nat) : Int) = ((Q - 1 : Nat) : Int) := IntWalk.u32_in _ (by omega)
        have HM2 := Lib.hid hm; have HQ3 := Lib.hid hq
        clear hm hq
        go_wp2_with fail
        go_ret
        refine ⟨s.set n 0, ?_, ?_, by rw [List.length_set, HSL.out, HRL.out], limOk_set HI3.out.ok (by omega), fun j hj => by rw [gN_set_ne (by omega), HI3.out.rest j (by omega)]; exact HI2.out.rest j (by omega), ?_, HK3.out.set (p := ⟨g, i + n, none⟩) (.inr rfl) _⟩
        ·rw [← HUn.out, ← HVV.out, HQ3.out, Nat.add_sub_cancel]
         rfl
        ·have h := setU HB3.out HP.out n 0
         rw [List.set_set] at h
         exact h
        ·rw [← HUn.out, ← HVV.out]; exact HM2.out
  ·by_cases c2 : 4294967296 ≤ (Q : Int)
   ·have HN2 := Lib.hid (HNX.out (by omega) (.inl (by omega)))
    have hw4 : IntKind.u64.wrap ((Q : Int) - 1) = ((Q - 1 : Nat) : Int) := by rw [IntWalk.u64_in _ (by omega)]; omega
    have hw5 : IntKind.u64.wrap ((R : Int) + (V1 : Int)) = ((R + V1 : Nat) : Int) := by rw [IntWalk.u64_in _ (by omega)]; omega
    go_upto_region 4 with fail
    go_quiet (fail)
    go_wp2_with fail
    go_roundw
    case rel => exact ⟨Q - 1, R + V1, rfl, rfl, HN2.out.2.2, by omega, HX.out.trans ((Ext.refl _).drewN _)⟩
    case measure => simp [intOf]; omega
   ·have hM : IntKind.u64.wrap ((Q : Int) * (V0 : Int)) = ((Q * V0 : Nat) : Int) := by
     have := Nat.mul_le_mul (show Q ≤ 4294967295 by omega) (show V0 ≤ 4294967295 by omega)
     rw [← Int.natCast_mul]
     exact IntWalk.u64_in _ (by omega)
    obtain ⟨M, hMe⟩ : ∃ M, M = Q * V0 := ⟨_, rfl⟩
    rw [← hMe] at hM HNX
    have HME := Lib.hid hMe
    have hsh2 : IntKind.u64.wrap ((R : Int) * 4294967296) = (R : Int) * 4294967296 := IntWalk.u64_in _ (by omega)
    obtain ⟨S, hS⟩ : ∃ S, S = R * 4294967296 + U0 := ⟨_, rfl⟩
    have hor2 : bits .or .u64 ((R : Int) * 4294967296) (U0 : Int) = (S : Int) := by rw [hS]; exact or_limb R U0 (by omega) gu0
    rw [← hS] at HNX
    have HSE := Lib.hid hS
    clear hS hMe
    have u0' := HX.out.cell u0; have v0' := HX.out.cell v0
    by_cases c3 : (S : Int) < (M : Int)
    ·have HN2 := Lib.hid (HNX.out (by omega) (.inr (by omega)))
     have hw4 : IntKind.u64.wrap ((Q : Int) - 1) = ((Q - 1 : Nat) : Int) := by have := HN2.out.2.1; rw [IntWalk.u64_in _ (by omega)]; omega
     have hw5 : IntKind.u64.wrap ((R : Int) + (V1 : Int)) = ((R + V1 : Nat) : Int) := by rw [IntWalk.u64_in _ (by omega)]; omega
     have hQ1 := HN2.out.2.1
     go_upto_region 4 with fail
     go_quiet (fail)
     go_wp2_with fail
     go_roundw
     case rel => exact ⟨Q - 1, R + V1, rfl, rfl, HN2.out.2.2, by omega, HX.out.trans ((Ext.refl _).drewN _)⟩
     case measure => simp [intOf]; omega
    ·have HEX : Hid (Q < 4294967296 ∧ UU / VV ≤ Q ∧ Q ≤ UU / VV + 1) := HI.out.exit HE2.out (.inr ⟨by omega, by rw [← HME.out, ← HSE.out]; omega⟩)
     have hqB : Q < 4294967296 := HEX.out.1
     have hnb : n ≤ 1100 := by have := HM.out; have := HN.out.1; omega
     go_upto_region 4 with fail
     go_quiet (fail)
     clear c1
     go_wp2_with fail
     go_loopw [10, 11, 78] (fun ca bo i wr => ∃ (k c b : Nat) (r : List Nat), k ≤ n ∧ i = .int .i64 k ∧ ca = .int .u64 (c : Int) ∧ bo = .int .u64 (b : Int) ∧ Blk 192 wr g (ucells (pre ++ r)) ∧ MsI u v r Q k c b ∧ Kept (fun x => x = g) w wr) (fun _ _ i _ => n - (intOf i).toNat)
     case atStart => exact ⟨0, 0, 0, u, Nat.zero_le _, rfl, rfl, rfl, HU.out.ext (HX.out.trans ((Ext.refl _).drewN _)), MsI.zero v Q HKU.out, (HX.out.trans ((Ext.refl _).drewN _)).kept _⟩
     case round =>
      obtain ⟨wq2, rfl⟩ : ∃ wq2 : World, wq2 = wr := ⟨_, rfl⟩
      obtain ⟨k, c, b, r, hk, rfl, rfl, rfl, hb, hi, hx⟩ := hrel
      have HB2 := Lib.hid hb; have HI2 := Lib.hid hi; have HK2 := Lib.hid hx
      have HRL : Hid (r.length = u.length) := hi.len
      have hcb := hi.c1; have hbb := hi.b1
      clear hb hi hx
      by_cases hlt : k < n
      ·obtain ⟨bv2, ov2, hbv, y0⟩ := (limsK HV.out HK2.out HNB.out) k (by rw [HVL.out]; exact hlt)
       injection hbv with hbv
       injection hbv with hb1 hb2
       subst hb1 hb2
       have hk0 : (0 : Int) ≤ k := by omega
       have hk1 : (k : Int) < n := by omega
       have hk2 : (k : Int) < N := by omega
       have hkl : k < r.length := by rw [HRL.out]; have := HUL.out; omega
       have c0 := cellU HB2.out HP.out hkl
       have f0 := HB2.out.frozen (i + k)
       have gX := gN_lt HKU.out k; have gY := gN_lt HKV.out k
       rw [HI2.out.rest k (Nat.le_refl _)] at c0
       have HST := Lib.hid (HI2.out.step (by have := HUL.out; omega) HKU.out HKV.out hqB)
       have hbd := HI2.out.bd hqB HKV.out
       obtain ⟨X, hX⟩ : ∃ X, X = gN u k := ⟨_, rfl⟩
       obtain ⟨Y, hY⟩ : ∃ Y, Y = gN v k := ⟨_, rfl⟩
       rw [← hX] at c0 gX HST
       rw [← hY] at y0 gY HST hbd
       clear hX hY
       obtain ⟨P, hP⟩ : ∃ P, P = Q * Y := ⟨_, rfl⟩
       rw [← hP] at HST hbd
       have hPI : (Q : Int) * (Y : Int) = (P : Int) := by rw [hP]; rfl
       obtain ⟨T2, hT2⟩ : ∃ T, T = c + P := ⟨_, rfl⟩
       rw [← hT2] at HST hbd
       have hw0 : IntKind.u64.wrap (X : Int) = (X : Int) := IntWalk.u64_in _ (by omega)
       have hw1 : IntKind.u64.wrap (Y : Int) = (Y : Int) := IntWalk.u64_in _ (by omega)
       have hw4 : IntKind.u64.wrap (P : Int) = (P : Int) := IntWalk.u64_in _ (by omega)
       have hw5 : IntKind.u64.wrap ((c : Int) + (P : Int)) = (T2 : Int) := by rw [IntWalk.u64_in _ (by omega)]; omega
       obtain ⟨t, htt⟩ : ∃ t, t = T2 % 4294967296 := ⟨_, rfl⟩
       have hti : (T2 : Int) % 4294967296 = (t : Int) := by omega
       have htb : t < 4294967296 := by omega
       have hw6 : IntKind.u64.wrap (t : Int) = (t : Int) := IntWalk.u64_in _ (by omega)
       have hw7 : IntKind.u32.wrap (T2 : Int) = (t : Int) := by rw [IntKind.wrap_u32]; omega
       rw [← htt] at HST
       obtain ⟨D1, D, hd1, hd2, hd3, hd4, hd5⟩ := sub_wrap gX htb hbb
       rw [← hd4, ← hd5] at HST
       clear hd4 hd5 hP hT2 htt
       have HTB := Lib.hid hbd; have HD3 := Lib.hid hd3
       go_wp2_with fail
       go_roundw
       case rel => exact ⟨k + 1, T2 / 4294967296, D / 9223372036854775808, r.set k (D % 4294967296), by omega, by go_num, rfl, rfl, setU HB2.out HP.out k _, HST.out, HK2.out.set (p := ⟨g, i + k, none⟩) (.inr rfl) _⟩
       case measure => simp [intOf]; omega
      ·obtain rfl : n = k := by omega
       have hk0 : (0 : Int) ≤ n := by omega
       have hkl : n < r.length := by rw [HRL.out]; have := HUL.out; omega
       have hul : n < u.length := by have := HUL.out; omega
       have HUl := Lib.hid hul
       have c0 := cellU HB2.out HP.out hkl
       have f0 := HB2.out.frozen (i + n)
       have gX := gN_lt HKU.out n
       rw [HI2.out.rest n (Nat.le_refl _)] at c0
       obtain ⟨X, hX⟩ : ∃ X, X = gN u n := ⟨_, rfl⟩
       rw [← hX] at c0 gX
       have HXE := Lib.hid hX
       clear hX
       have hw0 : IntKind.u64.wrap (X : Int) = (X : Int) := IntWalk.u64_in _ (by omega)
       obtain ⟨D1, D, hd1, hd2, hd3, hd4, hd5⟩ := sub_wrap gX hcb hbb
       have HUn : Hid (UU = natL (u.take (n + 1))) := by show _ = _; rw [HUU.out, HN.out.2.1, HN.out.1]
       obtain ⟨x, hx⟩ : ∃ x, x = D % 4294967296 := ⟨_, rfl⟩
       have hxi : IntKind.u32.wrap (D : Int) = (x : Int) := by rw [IntKind.wrap_u32]; omega
       have hxb : x < 4294967296 := by omega
       have HRT2 : Hid (∀ z, z < 4294967296 → LimOk (r.set n z)) := fun z hz => limOk_set HI2.out.ok hz
       by_cases hgd : c + b ≤ X
       ·obtain ⟨hq, hm⟩ := HI2.out.good HVL.out hul HUn.out HVV.out HE2.out.v0p HEX.out.2.1 (by rw [← HXE.out]; exact hgd)
        have hxe : x = gN u n - c - b := by rw [← HXE.out]; omega
        rw [← hxe] at hm
        have HM2 := Lib.hid hm; have HQ3 := Lib.hid hq
        have hd0 : (D : Int) / 9223372036854775808 = 0 := by rw [if_neg (by omega)] at hd5; omega
        have hwq : IntKind.u32.wrap (Q : Int) = (Q : Int) := IntWalk.u32_in _ (by omega)
        have HXB := Lib.hid hxb
        clear hd4 hd5 hx hq hm hxe
        go_wp2_with fail
        go_ret
        refine ⟨r.set n x, ?_, setU HB2.out HP.out n _, by rw [List.length_set, HRL.out], HRT2.out x HXB.out, fun j hj => by rw [gN_set_ne (by omega)]; exact HI2.out.rest j (by omega), ?_, HK2.out.set (p := ⟨g, i + n, none⟩) (.inr rfl) _⟩
        ·rw [← HUn.out, ← HVV.out, ← HQ3.out]
         rfl
        ·rw [← HUn.out, ← HVV.out]; exact HM2.out
       ·have hd0 : (D : Int) / 9223372036854775808 = 1 := by rw [if_pos (by omega)] at hd5; omega
        have HXV : Hid (x = (X + 2 * 4294967296 - c - b) % 4294967296) := hx.trans hd4
        have HGD := Lib.hid hgd
        clear hd4 hd5 hx
        go_wp2_with fail
        go_loopw [10, 131] (fun ca j wr => ∃ (p k : Nat) (s : List Nat), p ≤ n ∧ j = .int .i64 p ∧ ca = .int .u64 (k : Int) ∧ Blk 192 wr g (ucells (pre ++ s.set n x)) ∧ AbI r v s p k ∧ Kept (fun x => x = g) w wr) (fun _ j _ => n - (intOf j).toNat)
        case atStart => exact ⟨0, 0, r, Nat.zero_le _, rfl, rfl, setU HB2.out HP.out n _, AbI.zero v HI2.out.ok, HK2.out.set (p := ⟨g, i + n, none⟩) (.inr rfl) _⟩
        case round =>
         obtain ⟨wq3, rfl⟩ : ∃ wq3 : World, wq3 = wr := ⟨_, rfl⟩
         obtain ⟨p, k, s, hp, rfl, rfl, hb, hi, hx⟩ := hrel
         have HB3 := Lib.hid hb; have HI3 := Lib.hid hi; have HK3 := Lib.hid hx
         have HSL : Hid (s.length = r.length) := hi.len
         have hkb := hi.c1
         clear hb hi hx c0 f0
         by_cases hlt : p < n
         ·obtain ⟨bv2, ov2, hbv, y0⟩ := (limsK HV.out HK3.out HNB.out) p (by rw [HVL.out]; exact hlt)
          injection hbv with hbv
          injection hbv with hb1 hb2
          subst hb1 hb2
          have hp0 : (0 : Int) ≤ p := by omega
          have hp1 : (p : Int) < n := by omega
          have hp2 : (p : Int) < N := by omega
          have hpl : p < (s.set n x).length := by rw [List.length_set, HSL.out]; omega
          have c0 := cellU HB3.out HP.out hpl
          have f0 := HB3.out.frozen (i + p)
          have gZ := gN_lt HI2.out.ok p; have gY := gN_lt HKV.out p
          rw [gN_set_ne (by omega), HI3.out.rest p (Nat.le_refl _)] at c0
          have HST := Lib.hid (HI3.out.step (by omega) HI2.out.ok HKV.out)
          obtain ⟨Z, hZ⟩ : ∃ Z, Z = gN r p := ⟨_, rfl⟩
          obtain ⟨Y, hY⟩ : ∃ Y, Y = gN v p := ⟨_, rfl⟩
          rw [← hZ] at c0 gZ HST
          rw [← hY] at y0 gY HST
          clear hZ hY
          have hw1 : IntKind.u64.wrap (Z : Int) = (Z : Int) := IntWalk.u64_in _ (by omega)
          have hw2 : IntKind.u64.wrap (Y : Int) = (Y : Int) := IntWalk.u64_in _ (by omega)
          have hw4 : IntKind.u64.wrap ((Z : Int) + (Y : Int)) = (Z : Int) + Y := IntWalk.u64_in _ (by omega)
          obtain ⟨T3, hT3⟩ : ∃ T, T = k + (Z + Y) := ⟨_, rfl⟩
          rw [← hT3] at HST
          have hw5 : IntKind.u64.wrap ((k : Int) + ((Z : Int) + (Y : Int))) = (T3 : Int) := by rw [IntWalk.u64_in _ (by omega)]; omega
          clear hT3
          go_wp2_with fail
          go_roundw
          case rel =>
           refine ⟨p + 1, T3 / 4294967296, s.set p (T3 % 4294967296), by omega, by go_num, rfl, ?_, HST.out, HK3.out.set (p := ⟨g, i + p, none⟩) (.inr rfl) _⟩
           rw [List.set_comm _ _ (by omega)]
           exact setU HB3.out HP.out p _
          case measure => simp [intOf]; omega
         ·obtain rfl : n = p := by omega
          obtain ⟨hq, hm, hkk⟩ := HI3.out.done HI2.out HVL.out HUl.out HUn.out HVV.out HKV.out HE2.out.v0p HEX.out.2.2 (by rw [← HXE.out]; have := HGD.out; omega)
          rw [← HXE.out] at hkk
          have hk1 : k = 1 := by have := HGD.out; omega
          have hx1 : x = 4294967295 := by have := HXV.out; omega
          have hsl : n < (s.set n x).length := by rw [List.length_set, HSL.out]; exact hkl
          have c0 := cellU HB3.out HP.out hsl
          have f0 := HB3.out.frozen (i + n)
          rw [gN_set_eq (by rw [HSL.out]; exact hkl)] at c0
          subst hk1 hx1
          have hq1 : 1 ≤ Q := by rw [hq]; exact Nat.succ_le_succ (Nat.zero_le _)
          have hw1 : IntKind.u64.wrap ((Q : Int) - 1) = ((Q - 1 : Nat) : Int) := by rw [IntWalk.u64_in _ (by omega)]; omega
          have hw2 : IntKind.u32.wrap ((Q - 1 : Nat) : Int) = ((Q - 1 : Nat) : Int) := IntWalk.u32_in _ (by omega)
          have HM2 := Lib.hid hm; have HQ3 := Lib.hid hq
          clear hm hq
          go_wp2_with fail
          go_ret
          refine ⟨s.set n 0, ?_, ?_, by rw [List.length_set, HSL.out, HRL.out], limOk_set HI3.out.ok (by omega), fun j hj => by rw [gN_set_ne (by omega), HI3.out.rest j (by omega)]; exact HI2.out.rest j (by omega), ?_, HK3.out.set (p := ⟨g, i + n, none⟩) (.inr rfl) _⟩
          ·rw [← HUn.out, ← HVV.out, HQ3.out, Nat.add_sub_cancel]
           rfl
          ·have h := setU HB3.out HP.out n 0
           rw [List.set_set] at h
           exact h
          ·rw [← HUn.out, ← HVV.out]; exact HM2.out
end Go.Proofs.YtfegbaokcbjllaaGreat
