/- plain: a style whose pieces are turned: no error; its cut polygons are the turned ones. No program in sight. -/
import Derived.Laws.FloatArith
import Derived.Test.YtfegbaokcbjllaaGreatKTpS
import Derived.Test.YtfegbaokcbjllaaGreatKNrm2
import Derived.Test.YtfegbaokcbjllaaGreatKCut
/- plain: polygons that are the same closed row, turned: their checks, areas and normal forms. No program in sight. -/
namespace Go.Proofs.YtfegbaokcbjllaaGreat
open Go.RowKit
/- a closed row and its image -/
structure Rel (f : Bool) (q : Int) (l l' : List Spot) : Prop where
 len : l'.length = l.length
 r : ∃ c : Int, ∀ i, cy l' i = applyT f q (cy l (if f = true then c - i else c + i))
theorem cy_map0 (f : Bool) (q : Int) (l : List Spot) (i : Int) : cy (l.map (applyT f q)) i = applyT f q (cy l i) := by
 rcases Nat.eq_zero_or_pos l.length with h0 | h0
 ·rw [List.eq_nil_of_length_eq_zero h0]
  show (0, 0) = applyT f q (0, 0)
  rw [apply_zero]
 ·exact cy_map _ h0 i
theorem rel_of {f : Bool} {q : Int} {l l' : List Spot} (h : RotC (turnL f q l) l') : Rel f q l l' := by
 obtain ⟨h1, d, h2⟩ := h
 refine ⟨h1.trans (turnL_len f q l), ?_⟩
 cases f with
 |false =>
  refine ⟨d, fun i => ?_⟩
  rw [h2]
  show cy (l.map (applyT false q)) (i + d) = _
  rw [cy_map0]
  simp only [Bool.false_eq_true, if_false]
  rw [Int.add_comm]
 |true =>
  refine ⟨-1 - d, fun i => ?_⟩
  rw [h2]
  show cy ((l.map (applyT true q)).reverse) (i + d) = _
  rw [cy_rev, cy_map0]
  simp only [if_true]
  congr 2; omega
theorem rel_rot {l l' : List Spot} (h : RotC l l') : Rel false 0 l l' := by
 obtain ⟨h1, d, h2⟩ := h
 refine ⟨h1, d, fun i => ?_⟩
 rw [h2]
 simp only [Bool.false_eq_true, if_false]
 rw [Int.add_comm]; rfl
theorem allB_cy {l : List Spot} (h : 0 < l.length) : AllB l ↔ ∀ i, inB (cy l i) :=
 ⟨fun hb i => hb.cy h i, fun hb k hk => by rw [← cy_nat hk]; exact hb _⟩
section
variable {f : Bool} {q : Int} {l l' : List Spot}
theorem Rel.allB (h : Rel f q l l') (hR : ∀ s, s ∈ l → inR 4000000 s) : AllB l' ↔ AllB l := by
 rcases Nat.eq_zero_or_pos l.length with h0 | h0
 ·have e1 := List.eq_nil_of_length_eq_zero h0
  have e2 := List.eq_nil_of_length_eq_zero (h.len.trans h0)
  rw [e1, e2]
 ·have h0' : 0 < l'.length := by rw [h.len]; exact h0
  obtain ⟨c, r⟩ := h.r
  have hi : ∀ j, inB (applyT f q (cy l j)) ↔ inB (cy l j) := fun j => (wfS_apply (inR_wf (by omega) (cy_R hR j)) f q).2
  rw [allB_cy h0, allB_cy h0']
  constructor
  ·intro hb i
   have := hb (if f = true then c - i else i - c)
   rw [r] at this
   have e : (if f = true then c - (if f = true then c - i else i - c) else c + (if f = true then c - i else i - c)) = i := by cases f <;> simp <;> omega
   rw [e] at this
   exact (hi i).1 this
  ·intro hb i
   rw [r]
   exact (hi _).2 (hb _)
theorem Rel.pc (h : Rel f q l l') (hB : AllB l) : pcheck l' = 0 ↔ pcheck l = 0 := by
 rcases Nat.eq_zero_or_pos l.length with h0 | hp
 ·have e1 := List.eq_nil_of_length_eq_zero h0
  have e2 := List.eq_nil_of_length_eq_zero (h.len.trans h0)
  rw [e1, e2]
 have hN := h.len
 obtain ⟨c, r⟩ := h.r
 have hB' : AllB l' := fun k hk => by
  rw [← cy_nat hk, r]
  exact (pres_apply f q).b _ (hB.cy hp _)
 rw [pcheck_iff, pcheck_iff, hN]
 have key : 3 ≤ l.length → (simpleB l' = true ↔ simpleB l = true) := fun h3 => by
  rw [simple_iff hB' (by rw [hN]; exact h3), simple_iff hB h3]
  cases f
  ·exact shift_simple (pres_apply false q) hN hB hp c (fun i => by rw [r]; simp only [Bool.false_eq_true, if_false]; rw [Int.add_comm])
  ·exact rev_simple (pres_apply true q) hN hB h3 c (fun i => by rw [r]; simp only [if_true])
 constructor
 ·rintro ⟨a, b, _, d⟩; exact ⟨a, b, hB, (key a).1 d⟩
 ·rintro ⟨a, b, _, d⟩; exact ⟨a, b, hB', (key a).2 d⟩
theorem Rel.area (h : Rel f q l l') (hB : AllB l) (h40 : l.length ≤ 40) : areaTo l' l'.length = areaTo l l.length := by
 rcases Nat.eq_zero_or_pos l.length with h0 | hp
 ·have e1 := List.eq_nil_of_length_eq_zero h0
  have e2 := List.eq_nil_of_length_eq_zero (h.len.trans h0)
  rw [e1, e2]
 have hN := h.len
 obtain ⟨c, r⟩ := h.r
 have hper : ∀ i : Int, crossO (cy l (i + l.length)) (cy l (i + l.length + 1)) = crossO (cy l i) (cy l (i + 1)) := fun i => by
  have e1 := cy_add (l := l) i 1
  have e2 := cy_add (l := l) (i + 1) 1
  rw [Int.one_mul] at e1 e2
  rw [e1, show i + l.length + 1 = i + 1 + l.length from by omega, e2]
 have hb : ∀ i, inB (cy l i) := fun i => hB.cy hp i
 have hB' : AllB l' := fun k hk => by rw [← cy_nat hk, r]; exact (pres_apply _ q).b _ (hb _)
 rw [(areaTo_eq hB' (by rw [hN]; exact h40) _ (Nat.le_refl _)).1, (areaTo_eq hB h40 _ (Nat.le_refl _)).1, hN]
 cases f
 ·rw [← sumZ_shift _ (fun i => crossO (cy l i) (cy l (i + 1))) hper c]
  refine sumZ_congr (fun i => ?_) _
  rw [r, r, crossO_turn _ _ (hb _) (hb _)]
  simp only [Bool.false_eq_true, if_false, sgn]
  rw [Int.one_mul, show c + i = i + c by omega, show c + (i + 1) = i + c + 1 by omega]
 ·rw [← sumZ_rev _ (fun i => crossO (cy l i) (cy l (i + 1))) hper (c - 1)]
  refine sumZ_congr (fun i => ?_) _
  rw [r, r, crossO_turn _ _ (hb _) (hb _)]
  simp only [if_true, sgn]
  rw [show c - 1 - i + 1 = c - i by omega, show c - (i + 1) = c - 1 - i by omega]
  unfold crossO
  rw [Int.mul_comm (cy l (c - i)).1, Int.mul_comm (cy l (c - i)).2]
  omega
theorem Rel.sg (h : Rel f q l l') (hB : AllB l) : sgOf l' = sgOf l := by
 unfold sgOf area2
 have hp := h.pc hB
 by_cases hz : pcheck l = 0
 ·rw [if_neg (fun e => e (hp.2 hz)), if_neg (fun e => e hz), h.area hB (pcheck_len hz).2]
 ·rw [if_pos (fun e => hz (hp.1 e)), if_pos hz]
end
/- the corners of a polygon as rows strung together -/
def bendC (l : List Spot) (i : Int) : Int := cross (cy l (i - 1)) (cy l i) (cy l (i + 1))
def cornG (l : List Spot) (i : Int) : List Spot := if bendC l i ≠ 0 then [cy l i] else []
theorem bendV_cy {l : List Spot} {k : Nat} (hk : k < l.length) : bendV l k = bendC l k := by
 unfold bendV bendC
 have hl : 0 < l.length := by omega
 rw [cy_nat hk]
 have e1 : cy l ((k : Int) - 1) = gS l ((k + l.length - 1) % l.length) := by
  rw [← cy_modn hl (k + l.length - 1), show (k : Int) - 1 = ((k + l.length - 1 : Nat) : Int) + (-1) * (l.length : Int) by omega, cy_add]
 have e2 : cy l ((k : Int) + 1) = gS l ((k + 1) % l.length) := by
  rw [← cy_modn hl (k + 1)]; congr 1
 rw [e1, e2]
theorem cornT_run {l : List Spot} : ∀ k, k ≤ l.length → cornT l k = runG (cornG l) 0 k
 |0, _ => rfl
 |k + 1, h => by
  show (if bendV l k ≠ 0 then cornT l k ++ [gS l k] else cornT l k) = runG (cornG l) 0 k ++ cornG l (0 + k)
  rw [cornT_run k (by omega), bendV_cy (by omega), Int.zero_add]
  unfold cornG
  rw [cy_nat (show k < l.length by omega)]
  split <;> simp
theorem cornG_per (l : List Spot) (i q : Int) : cornG l (i + q * l.length) = cornG l i := by
 unfold cornG bendC
 rw [show i + q * l.length - 1 = i - 1 + q * l.length by omega, show i + q * l.length + 1 = i + 1 + q * l.length by omega, cy_add, cy_add, cy_add]
theorem cornT_rot {A B : List Spot} (h : RotC A B) : RotC (cornT A A.length) (cornT B B.length) := by
 rw [cornT_run _ (Nat.le_refl _), cornT_run _ (Nat.le_refl _)]
 obtain ⟨h1, d, h2⟩ := h
 rcases Nat.eq_zero_or_pos A.length with h0 | h0
 ·rw [h1, h0]; exact RotC.refl _
 ·have e : runG (cornG B) 0 B.length = runG (cornG A) d A.length := by
   rw [h1]
   refine runG_congr _ fun i => ?_
   unfold cornG bendC
   rw [h2, h2, h2, show 0 + i + d = d + i by omega, show 0 + i - 1 + d = d + i - 1 by omega, show 0 + i + 1 + d = d + i + 1 by omega]
  rw [e]
  exact runG_rot h0 (cornG_per A) d
theorem cornT_sub (l : List Spot) : ∀ k, k ≤ l.length → (cornT l k).Sublist (l.take k)
 |0, _ => by simp [cornT]
 |k + 1, h => by
  have ih := cornT_sub l k (by omega)
  rw [List.take_succ_eq_append_getElem (by omega), ← gS_eq (by omega)]
  unfold cornT
  split
  ·exact ih.append (List.Sublist.refl _)
  ·exact ih.trans (List.sublist_append_left _ _)
/- spots in their order -/
theorem lexB_iff (s f : Spot) : lexB s f = true ↔ s.1 < f.1 ∨ (s.1 = f.1 ∧ s.2 < f.2) := decide_eq_true_iff
theorem firstN_min (L : List Spot) : ∀ k, ∀ j, j < k → ¬ lexB (gS L j) (gS L (firstN L k)) = true
 |0, j, h => absurd h (Nat.not_lt_zero _)
 |k + 1, j, h => by
  have ih := firstN_min L k
  show ¬ lexB (gS L j) (gS L (if lexB (gS L k) (gS L (firstN L k)) = true then k else firstN L k)) = true
  split
  ·rename_i hc
   rcases Nat.lt_or_ge j k with hj | hj
   ·intro e
    refine ih j hj ?_
    rw [lexB_iff] at hc e ⊢
    omega
   ·obtain rfl : j = k := by omega
    rw [lexB_iff]; omega
  ·rename_i hc
   rcases Nat.lt_or_ge j k with hj | hj
   ·exact ih j hj
   ·obtain rfl : j = k := by omega
    exact hc
theorem mr_of (M : List Spot) : RotC M (mr M) := by
 have h := RotC.app (M.take (firstN M M.length)) (M.drop (firstN M M.length))
 rwa [List.take_append_drop] at h
theorem RotC.mem {A B : List Spot} (h : RotC A B) {x : Spot} (hx : x ∈ B) : x ∈ A := by
 obtain ⟨h1, d, h2⟩ := h
 obtain ⟨k, hk, rfl⟩ := List.mem_iff_getElem.1 hx
 rw [← gS_eq hk, ← cy_nat hk, h2]
 obtain ⟨j, hj, _, e⟩ := cy_of (l := A) (by omega) ((k : Int) + d)
 rw [e, gS_eq hj]
 exact List.getElem_mem hj
theorem gS_drop (l : List Spot) (f k : Nat) : gS (l.drop f) k = gS l (f + k) := by simp [gS, List.getElem?_drop]
theorem mr_head {M : List Spot} (h : 0 < M.length) : gS (mr M) 0 = gS M (firstN M M.length) := by
 have hk := firstN_lt M M.length
 unfold mr
 rw [gS_append, if_pos (by rw [List.length_drop]; omega), gS_drop, Nat.add_zero]
theorem mr_min {M : List Spot} (h : 0 < M.length) {x : Spot} (hx : x ∈ M) : ¬ lexB x (gS (mr M) 0) = true := by
 rw [mr_head h]
 obtain ⟨j, hj, rfl⟩ := List.mem_iff_getElem.1 hx
 rw [← gS_eq hj]
 exact firstN_min M M.length j hj
theorem cy_nodup {l : List Spot} (hn : l.Nodup) (h0 : 0 < l.length) {i j : Int} (h : cy l i = cy l j) : i % l.length = j % l.length := by
 obtain ⟨a, ha, ea, ca⟩ := cy_of h0 i
 obtain ⟨b, hb, eb, cb⟩ := cy_of h0 j
 rw [ca, cb, gS_eq ha, gS_eq hb, List.getElem_inj hn] at h
 rw [ea, eb, h]
theorem mr_rot {M M' : List Spot} (h : RotC M M') (hn : M.Nodup) : mr M = mr M' := by
 rcases Nat.eq_zero_or_pos M.length with h0 | h0
 ·rw [List.eq_nil_of_length_eq_zero h0, List.eq_nil_of_length_eq_zero (h.1.trans h0)]
 ·have h0' : 0 < M'.length := by rw [h.1]; exact h0
  have hU := (mr_of M).symm.trans (h.trans (mr_of M'))
  have hUl : (mr M).length = M.length := (mr_of M).1
  have hUl' : (mr M').length = M'.length := (mr_of M').1
  have hmem : ∀ {A : List Spot}, 0 < A.length → gS A 0 ∈ A := fun {A} hA => by rw [gS_eq hA]; exact List.getElem_mem hA
  have m1 : gS (mr M') 0 ∈ M := (h.trans (mr_of M')).mem (hmem (by omega))
  have m2 : gS (mr M) 0 ∈ M' := (h.symm.trans (mr_of M)).mem (hmem (by omega))
  have n1 := mr_min h0 m1
  have n2 := mr_min h0' m2
  rw [lexB_iff] at n1 n2
  have he : gS (mr M') 0 = gS (mr M) 0 := Prod.ext (by omega) (by omega)
  have hnd : (mr M).Nodup := by
   unfold mr
   refine (List.Perm.nodup_iff List.perm_append_comm).2 ?_
   rw [List.take_append_drop]; exact hn
  obtain ⟨hl, d, hd⟩ := hU
  have e1 : cy (mr M) d = cy (mr M) 0 := by
   have := hd 0
   rw [Int.zero_add] at this
   rw [← this, show (0 : Int) = ((0 : Nat) : Int) from rfl, cy_nat (by omega), cy_nat (by omega), he]
  have e2 := cy_nodup hnd (by omega) e1
  refine list_ext_gS hl.symm fun k hk => ?_
  rw [← cy_nat hk, ← cy_nat (show k < (mr M').length by omega), hd]
  refine cy_mod ?_
  rw [Int.add_emod, e2, Int.zero_emod, Int.add_zero, Int.emod_emod]
theorem nodup_of {l : List Spot} (h : pcheck l = 0) : l.Nodup := by
 obtain ⟨h3, _, hB, hs⟩ := (pcheck_iff l).1 h
 have S := (simple_iff hB h3).1 hs
 refine List.pairwise_iff_getElem.2 fun i j hi hj hij e => ?_
 rw [← gS_eq hi, ← gS_eq hj, ← cy_nat hi, ← cy_nat hj] at e
 have := S.a _ _ e
 rw [Int.emod_eq_of_lt (by omega) (by omega), Int.emod_eq_of_lt (by omega) (by omega)] at this
 omega
theorem normG_rot {A B : List Spot} (h : RotC A B) (hp : pcheck A = 0) : normG A = normG B := by
 have hpi := (pcheck_iff A).1 hp
 have ha := (rel_rot h).area hpi.2.2.1 hpi.2.1
 have hn : (cornT A A.length).Nodup := ((cornT_sub A A.length (Nat.le_refl _)).trans (List.take_sublist _ _)).nodup (nodup_of hp)
 unfold normG
 rw [ha]
 split
 ·exact mr_rot (cornT_rot h).rev ((List.Perm.nodup_iff (List.reverse_perm _)).2 hn)
 ·exact mr_rot (cornT_rot h) hn
/- a simple polygon has a corner -/
theorem corner_ne {l : List Spot} (h : pcheck l = 0) : cornT l l.length ≠ [] := by
 intro hE
 obtain ⟨h3, _, hB, hs⟩ := (pcheck_iff l).1 h
 have S := (simple_iff hB h3).1 hs
 have hl : 0 < l.length := by omega
 have hz : ∀ k, k < l.length → bendV l k = 0 := by
  have key : ∀ n, n ≤ l.length → cornT l n = [] → ∀ k, k < n → bendV l k = 0 := by
   intro n
   induction n with
   |zero => intro _ _ k hk; omega
   |succ n ih =>
    intro hn he k hk
    unfold cornT at he
    split at he
    ·simp at he
    ·rename_i hc
     rcases Nat.lt_or_ge k n with hk' | hk'
     ·exact ih (by omega) he k hk'
     ·obtain rfl : k = n := by omega
      exact Classical.not_not.1 hc
  exact key _ (Nat.le_refl _) hE
 obtain ⟨k, hk⟩ : ∃ k, k = firstN l l.length := ⟨_, rfl⟩
 have hkl : k < l.length := by have := firstN_lt l l.length; omega
 have hmin : ∀ j : Int, ¬ lexB (cy l j) (cy l k) = true := fun j => by
  obtain ⟨a, ha, _, ca⟩ := cy_of hl j
  rw [ca, cy_nat hkl, hk]
  exact firstN_min l l.length a ha
 have hne : ∀ t : Int, t = -1 ∨ t = 1 → cy l ((k : Int) + t) ≠ cy l k := fun t ht e => by
  have h1 := S.a _ _ e
  rw [Int.emod_eq_emod_iff_emod_sub_eq_zero, show (k : Int) + t - k = t by omega] at h1
  rcases ht with rfl | rfl
  ·rw [neg_emod' (by omega), if_neg (by rw [Int.emod_eq_of_lt (by omega) (by omega)]; omega), Int.emod_eq_of_lt (by omega) (by omega)] at h1
   omega
  ·rw [Int.emod_eq_of_lt (by omega) (by omega)] at h1
   omega
 have hb := hz k hkl
 rw [bendV_cy hkl] at hb
 unfold bendC at hb
 have hf := S.b ((k : Int) - 1)
 rw [show (k : Int) - 1 + 1 = k by omega, show (k : Int) - 1 + 2 = k + 1 by omega] at hf
 have i1 := hB.cy hl ((k : Int) - 1); have i2 := hB.cy hl (k : Int); have i3 := hB.cy hl ((k : Int) + 1)
 rw [cross_eq i1 i2 i3] at hb
 rw [fold_eq i1 i2 i3, hb] at hf
 have hd : ¬ 0 < dotX (cy l ((k : Int) - 1)) (cy l k) (cy l ((k : Int) + 1)) := by simpa using hf
 have m1 := hmin ((k : Int) - 1); have m2 := hmin ((k : Int) + 1)
 have n1 : cy l ((k : Int) - 1) ≠ cy l k := hne (-1) (.inl rfl)
 have n2 := hne 1 (.inr rfl)
 generalize cy l ((k : Int) - 1) = a at *
 generalize cy l ((k : Int) + 1) = b at *
 generalize cy l (k : Int) = v at *
 obtain ⟨ax, ay⟩ := a; obtain ⟨bx, b_y⟩ := b; obtain ⟨vx, vy⟩ := v
 rw [lexB_iff] at m1 m2
 unfold crossX at hb
 unfold dotX at hd
 simp only at m1 m2 hb hd
 have n1' : ¬ (ax = vx ∧ ay = vy) := fun e => n1 (by rw [e.1, e.2])
 have n2' : ¬ (bx = vx ∧ b_y = vy) := fun e => n2 (by rw [e.1, e.2])
 obtain ⟨u1, hu1⟩ : ∃ u, u = ax - vx := ⟨_, rfl⟩
 obtain ⟨u2, hu2⟩ : ∃ u, u = ay - vy := ⟨_, rfl⟩
 obtain ⟨w1, hw1⟩ : ∃ u, u = bx - vx := ⟨_, rfl⟩
 obtain ⟨w2, hw2⟩ : ∃ u, u = b_y - vy := ⟨_, rfl⟩
 have hc : u1 * w2 = u2 * w1 := by rw [hu1, hu2, hw1, hw2]; grind
 rw [← hu1, ← hu2, ← hw1, ← hw2] at hd
 have p1 : 0 < u1 ∨ (u1 = 0 ∧ 0 < u2) := by omega
 have p2 : 0 < w1 ∨ (w1 = 0 ∧ 0 < w2) := by omega
 rcases p1 with p1 | ⟨p1, p1'⟩
 ·rcases p2 with p2 | ⟨p2, p2'⟩
  ·have h1 : 0 < u1 * w1 := Int.mul_pos p1 p2
   rcases Int.le_total 0 u2 with h2 | h2
   ·have h3 : 0 ≤ u2 * w1 := Int.mul_nonneg h2 (by omega)
    have h4 : 0 ≤ w2 := by
     rcases Int.lt_or_le w2 0 with h5 | h5
     ·have := Int.mul_neg_of_pos_of_neg p1 h5; omega
     ·exact h5
    have := Int.mul_nonneg h2 h4
    omega
   ·have h3 : u2 * w1 ≤ 0 := Int.mul_nonpos_of_nonpos_of_nonneg h2 (by omega)
    have h4 : w2 ≤ 0 := by
     rcases Int.lt_or_le 0 w2 with h5 | h5
     ·have := Int.mul_pos p1 h5; omega
     ·exact h5
    have := Int.mul_nonneg_of_nonpos_of_nonpos h2 h4
    omega
  ·rw [p2, Int.mul_zero] at hc
   have := Int.mul_pos p1 p2'; omega
 ·rcases p2 with p2 | ⟨p2, p2'⟩
  ·rw [p1, Int.zero_mul] at hc
   have := Int.mul_pos p1' p2; omega
  ·rw [p1, p2] at hd
   have := Int.mul_pos p1' p2'
   omega
end Go.Proofs.YtfegbaokcbjllaaGreat
/- plain: the square root by way of the machine's numbers is a number, and not too great, for every number below 2^50. No program in sight. -/
namespace Go.Proofs.YtfegbaokcbjllaaGreat
open Go.RowKit Ieee
theorem shl (a b : Nat) : a <<< b = a * 2 ^ b := Nat.shiftLeft_eq a b
theorem lt_log (n : Nat) : n < 2 ^ (n.log2 + 1) := Nat.lt_log2_self
theorem cut_le (way : Toward) (neg : Bool) (n drop k : Nat) (h : n < 2 ^ (k + drop)) : way.cut neg n drop ≤ 2 ^ k := by
 have hlow : n / (1 <<< min drop (n.log2 + 2)) < 2 ^ k := by
  rw [shl, Nat.one_mul]
  refine (Nat.div_lt_iff_lt_mul (Nat.two_pow_pos _)).2 ?_
  rw [← Nat.pow_add]
  rcases Nat.le_total drop (n.log2 + 2) with hd | hd
  ·rw [Nat.min_eq_left hd]; exact h
  ·rw [Nat.min_eq_right hd]
   exact Nat.lt_of_lt_of_le (lt_log n) (Nat.pow_le_pow_right (by omega) (by omega))
 have hb : ∀ b : Bool, b.toNat ≤ 1 := fun b => by cases b <;> decide
 unfold Toward.cut
 simp only
 refine Nat.le_trans (Nat.add_le_add_left (hb _) _) ?_
 omega
/- what a written number reads as -/
theorem near_read (mag : Nat) (place : Int) (L : Int) (hL : L = max (place + (mag.log2 : Int) - 52) (-1074)) (h : L ≤ 100) :
  ∃ m j, double.read (double.nearest false mag place) = .number false m j ∧ m < 2 ^ 53 ∧ j ≤ L + 1 := by
 have e1 : double.leastPlace = -1074 := by decide
 have e2 : double.binade = 4503599627370496 := by decide
 have e3 : double.infRung = 9218868437227405312 := by decide
 have e4 : double.signWeight = 9223372036854775808 := by decide
 have rd : ∀ rung : Nat, rung < 9218868437227405312 → (rung : Int) < (L + 1074 + 3) * 4503599627370496 → ∃ m j, double.read rung = .number false m j ∧ m < 2 ^ 53 ∧ j ≤ L + 1 := fun rung h1 h2 => by
  unfold Format.read
  simp only [e1, e2, e3, e4]
  have h3 : rung / 9223372036854775808 = 0 := Nat.div_eq_of_lt (by omega)
  have h4 : rung % 9223372036854775808 = rung := Nat.mod_eq_of_lt (by omega)
  rw [h3, h4]
  by_cases hs : rung < 4503599627370496
  ·rw [if_pos hs]
   exact ⟨_, _, rfl, by omega, by omega⟩
  ·rw [if_neg hs, if_pos h1]
   refine ⟨_, _, rfl, by omega, by omega⟩
 by_cases hm : mag = 0
 ·subst hm
  have e : double.nearest false 0 place = 0 := by unfold Format.nearest; rw [if_pos rfl]; rfl
  rw [e]
  exact rd 0 (by omega) (by omega)
 ·have hk : Toward.even.cut false (mag <<< (place - L).toNat) (L - place).toNat ≤ 2 ^ 53 := by
   refine cut_le _ _ _ _ _ ?_
   rw [shl]
   refine Nat.lt_of_lt_of_le (Nat.mul_lt_mul_of_pos_right (lt_log mag) (Nat.two_pow_pos _)) ?_
   rw [← Nat.pow_add]
   exact Nat.pow_le_pow_right (by omega) (by omega)
  have e : double.nearest false mag place = min ((L + 1074).toNat * 4503599627370496 + Toward.even.cut false (mag <<< (place - L).toNat) (L - place).toNat) 9218868437227405312 := by
   unfold Format.nearest
   rw [if_neg hm]
   simp only [e1, e2, e3, Format.word]
   rw [if_neg (by decide), show max (place + (mag.log2 : Int) - (double.fractionBits : Nat)) (-1074) = L from hL.symm]
   rw [show L - -1074 = L + 1074 by omega]
  rw [e]
  generalize Toward.even.cut false (mag <<< (place - L).toNat) (L - place).toNat = kept at hk
  have hlt : (L + 1074).toNat * 4503599627370496 + kept < 9218868437227405312 := by omega
  rw [Nat.min_eq_left (by omega)]
  exact rd _ hlt (by omega)
theorem rootFrom_lt (n : Nat) : ∀ (todo r : Nat), r % 2 ^ todo = 0 → ∀ T, r + 2 ^ todo ≤ T → Datum.rootFrom n todo r < T
 |0, r, _, T, h => by unfold Datum.rootFrom; omega
 |todo + 1, r, hr, T, h => by
  unfold Datum.rootFrom
  simp only [shl, Nat.one_mul]
  have hp : 2 ^ (todo + 1) = 2 * 2 ^ todo := by rw [Nat.pow_succ, Nat.mul_comm]
  have hm : r % 2 ^ todo = 0 := by
   have := Nat.mod_mod_of_dvd r (show 2 ^ todo ∣ 2 ^ (todo + 1) from ⟨2, by rw [hp, Nat.mul_comm]⟩)
   rw [hr] at this
   simpa using this.symm
  split
  ·exact rootFrom_lt n todo _ (by rw [Nat.add_mod_right]; exact hm) T (by omega)
  ·exact rootFrom_lt n todo _ hm T (by omega)
theorem root_bd (m : Nat) (i : Int) (hm : m < 2 ^ 53) (hm0 : m ≠ 0) : ∃ m' i', Datum.root 54 (.number false m i) = some (.number false m' i') ∧ i' + (m'.log2 : Int) ≤ (i - 56) / 2 + 54 := by
 have hl : m.log2 ≤ 52 := by
  have := (Nat.log2_lt hm0 (k := 53)).2 hm
  omega
 unfold Datum.root
 simp only [hm0, ↓reduceIte, Bool.false_eq_true]
 generalize hp : ((i - ((2 * 54 - m.log2 : Nat) : Int)) % 2).toNat = p
 have hp1 : p ≤ 1 := by omega
 generalize hw : Datum.rootFrom (m <<< (2 * 54 - m.log2 + p)) ((m <<< (2 * 54 - m.log2 + p)).log2 / 2 + 1) 0 = whole
 have hlog : (m <<< (2 * 54 - m.log2 + p)).log2 ≤ 109 := by
  rw [shl]
  have hne : m * 2 ^ (2 * 54 - m.log2 + p) ≠ 0 := Nat.ne_of_gt (Nat.mul_pos (by omega) (Nat.two_pow_pos _))
  have : (m * 2 ^ (2 * 54 - m.log2 + p)).log2 < 110 := by
   refine (Nat.log2_lt hne).2 ?_
   refine Nat.lt_of_lt_of_le (Nat.mul_lt_mul_of_pos_right (lt_log m) (Nat.two_pow_pos _)) ?_
   rw [← Nat.pow_add]
   exact Nat.pow_le_pow_right (by omega) (by omega)
  omega
 have hwl : whole < 2 ^ 55 := by
  rw [← hw]
  refine rootFrom_lt _ _ 0 (by simp) _ ?_
  rw [Nat.zero_add]
  exact Nat.pow_le_pow_right (by omega) (by omega)
 refine ⟨_, _, rfl, ?_⟩
 have hb : ∀ b : Bool, b.toNat ≤ 1 := fun b => by cases b <;> decide
 have hbb := hb (whole * whole != m <<< (2 * 54 - m.log2 + p))
 have hlt : (2 * whole + (whole * whole != m <<< (2 * 54 - m.log2 + p)).toNat).log2 ≤ 55 := by
  generalize (whole * whole != m <<< (2 * 54 - m.log2 + p)).toNat = b at hbb
  by_cases h0 : 2 * whole + b = 0
  ·rw [h0]; decide
  ·have := (Nat.log2_lt h0 (k := 56)).2 (by omega)
   omega
 omega
theorem toInt_bd (m : Nat) (j : Int) (hm : m < 2 ^ 53) (hj : j ≤ -22) : ∃ r : Nat, Datum.toInt .zero (.number false m j) = some (r : Int) ∧ r ≤ 2147483648 := by
 unfold Datum.toInt Datum.integral
 simp only
 refine ⟨Toward.zero.cut false (m <<< j.toNat) (-j).toNat, ?_, ?_⟩
 ·simp [signed]
 ·have h := cut_le .zero false (m <<< j.toNat) (-j).toNat 31 (by
   rw [shl, show j.toNat = 0 by omega, Nat.pow_zero, Nat.mul_one]
   exact Nat.lt_of_lt_of_le hm (Nat.pow_le_pow_right (by omega) (by omega)))
  exact h
theorem fl_all (n : Nat) (h : n < 1125899906842624) : ∃ x r : Nat, FloatKind.f64.format.sqrt (floatOfInt .f64 (n : Int)) = some x ∧ floatToIntVal .f64 x .i64 = some (r : Int) ∧ r ≤ 2147483648 := by
 have e0 : floatOfInt .f64 (n : Int) = double.nearest false n 0 := by
  show double.write (.number (decide ((n : Int) < 0)) (n : Int).natAbs 0) = _
  rw [show decide ((n : Int) < 0) = false from decide_eq_false (by omega), Int.natAbs_natCast]; rfl
 have hlog : n.log2 ≤ 49 := by
  by_cases h0 : n = 0
  ·subst h0; decide
  ·have := (Nat.log2_lt h0 (k := 50)).2 h
   omega
 obtain ⟨m, i, e1, hm, hi⟩ := near_read n 0 _ rfl (by omega)
 have hi' : i ≤ -2 := by omega
 clear hi
 have fin : ∀ (m' : Nat) (i' : Int), i' + (m'.log2 : Int) ≤ 26 → ∃ r : Nat, floatToIntVal .f64 (double.nearest false m' i') .i64 = some (r : Int) ∧ r ≤ 2147483648 := fun m' i' hb => by
  obtain ⟨m2, j2, e2, hm2, hj2⟩ := near_read m' i' _ rfl (by omega)
  obtain ⟨r, hr, hr'⟩ := toInt_bd m2 j2 hm2 (by omega)
  refine ⟨r, ?_, hr'⟩
  unfold floatToIntVal
  rw [show FloatKind.decode .f64 (double.nearest false m' i') = .number false m2 j2 from e2, hr]
  simp only
  rw [if_pos]
  exact ⟨by show (-9223372036854775808 : Int) ≤ _; omega, by show _ ≤ (9223372036854775807 : Int); omega⟩
 by_cases hm0 : m = 0
 ·subst hm0
  obtain ⟨r, hr, hr'⟩ := fin 0 i (by rw [show Nat.log2 0 = 0 by decide]; omega)
  refine ⟨double.nearest false 0 i, r, ?_, hr, hr'⟩
  show (Datum.root 54 (double.read (floatOfInt .f64 (n : Int)))).map double.write = _
  rw [e0, e1]
  rfl
 ·obtain ⟨m', i', e2, hb⟩ := root_bd m i hm hm0
  obtain ⟨r, hr, hr'⟩ := fin m' i' (by omega)
  refine ⟨double.nearest false m' i', r, ?_, hr, hr'⟩
  show (Datum.root 54 (double.read (floatOfInt .f64 (n : Int)))).map double.write = _
  rw [e0, e1, e2]
  rfl
end Go.Proofs.YtfegbaokcbjllaaGreat
/- plain: the cut polygon of a turned outline. No program in sight. -/
namespace Go.Proofs.YtfegbaokcbjllaaGreat
open Go.RowKit
/- the outline's vertices and widths -/
theorem oc_all {es : List Edge} (hO : ocheck es = 0) : Joined es ∧ AllB (verts es) ∧ pcheck (verts es) = 0 ∧ WfE es := by
 have hk := (ocheck_iff _).1 hO
 obtain ⟨J, B⟩ := ocheck_joined hk.l2 hk.lc hk.jn
 exact ⟨J, B, hk.pc, fun i hi => fun k hk' => inB_wf (((lcheck_iff _).1 (hk.lc i hi)).2.2.1 k hk')⟩
theorem sq_one {p q : Spot} (h : p ≠ q) : 1 ≤ sqN p q := by
 unfold sqN
 have hx : ∀ z : Int, 0 ≤ z * z := fun z => by
  rcases Int.le_total 0 z with h | h
  ·exact Int.mul_nonneg h h
  ·exact Int.mul_nonneg_of_nonpos_of_nonpos h h
 have h1 := hx (q.1 - p.1); have h2 := hx (q.2 - p.2)
 have key : ∀ z : Int, z ≠ 0 → 1 ≤ z * z := fun z hz => by
  have : 0 < z * z := by
   rcases Int.lt_or_lt_of_ne hz with h | h
   ·exact Int.mul_pos_of_neg_of_neg h h
   ·exact Int.mul_pos h h
  omega
 by_cases e : q.1 - p.1 = 0
 ·have : q.2 - p.2 ≠ 0 := fun e2 => h (Prod.ext (by omega) (by omega))
  have := key _ this
  omega
 ·have := key _ e
  omega
theorem cy_next {l : List Spot} (h : pcheck l = 0) (i : Int) : cy l i ≠ cy l (i + 1) := by
 obtain ⟨h3, _, hB, hs⟩ := (pcheck_iff l).1 h
 have S := (simple_iff hB h3).1 hs
 intro e
 have h1 := S.a _ _ e.symm
 rw [Int.emod_eq_emod_iff_emod_sub_eq_zero, show i + 1 - i = 1 by omega, Int.emod_eq_of_lt (by omega) (by omega)] at h1
 omega
theorem out_of {es : List Edge} {ws : List Int} (hO : ocheck es = 0) (hW : WOk ws) (hl : ws.length = es.length) : OutV (sgOf (verts es)) (verts es) (segWd es ws es.length) := by
 obtain ⟨J, B, hp, _⟩ := oc_all hO
 have hpos := J.pos
 have hn : (segWd es ws es.length).length = (verts es).length := segWd_vl es ws
 refine ⟨cmpI_sg _, hn, hpos, fun i => B.cy hpos i, fun i => sq_one (cy_next hp i), fun i => ?_⟩
 unfold cyI
 have h0 := Int.emod_nonneg i (show ((segWd es ws es.length).length : Int) ≠ 0 by omega)
 have h1 := Int.emod_lt_of_pos i (show (0 : Int) < ((segWd es ws es.length).length : Int) by omega)
 rw [gI_eq (by omega)]
 exact segWd_r hW es.length (by omega) _ (List.getElem_mem _)
/- the points -/
section
variable {es : List Edge} {ws : List Int}
theorem sgP_cy {i : Nat} (hi : i < (verts es).length) (hn : (segWd es ws es.length).length = (verts es).length) : sgP (verts es) (shOf es ws) (segWd es ws es.length) i = sgC (sgOf (verts es)) (verts es) (segWd es ws es.length) i := by
 have hl : 0 < (verts es).length := by omega
 have e1 : cy (verts es) ((i : Int) + 1) = gS (verts es) ((i + 1) % (verts es).length) := by
  rw [← cy_modn hl (i + 1)]; congr 1
 have e2 : shCy (sgOf (verts es)) (verts es) (segWd es ws es.length) i = gS (shOf es ws) i := by
  unfold shCy
  rw [shOf_get hi, e1, cy_nat hi, cyI_nat (by omega)]
 unfold sgP sgC
 rw [e2, e1, cy_nat hi, cyI_nat (by omega)]
theorem ptP_run (hO : ocheck es = 0) (hW : WOk ws) (hl : ws.length = es.length) : ∀ k, k ≤ (verts es).length → ptP (verts es) (shOf es ws) (segWd es ws es.length) k = (runG (coC (sgOf (verts es)) (verts es) (segWd es ws es.length)) 0 k).foldl addP []
 |0, _ => rfl
 |k + 1, h => by
  have O := out_of hO hW hl
  have hp := O.n0
  show (cornC (gS (verts es) k) (sgP (verts es) (shOf es ws) (segWd es ws es.length) ((k + (verts es).length - 1) % (verts es).length)) (sgP (verts es) (shOf es ws) (segWd es ws es.length) k)).foldl addP (ptP (verts es) (shOf es ws) (segWd es ws es.length) k) = (runG (coC (sgOf (verts es)) (verts es) (segWd es ws es.length)) 0 k ++ coC (sgOf (verts es)) (verts es) (segWd es ws es.length) (0 + k)).foldl addP []
  rw [List.foldl_append, ptP_run hO hW hl k (by omega), Int.zero_add]
  congr 1
  unfold coC
  rw [sgP_cy (show k < (verts es).length by omega) O.n, sgP_cy (Nat.mod_lt _ hp) O.n, cy_nat (show k < (verts es).length by omega)]
  congr 1
  have hg : ∀ j q : Int, sgC (sgOf (verts es)) (verts es) (segWd es ws es.length) (j + q * (verts es).length) = sgC (sgOf (verts es)) (verts es) (segWd es ws es.length) j := fun j q => by
   unfold sgC shCy
   rw [show j + q * (verts es).length + 1 = j + 1 + q * (verts es).length by omega, cy_add, cy_add, ← O.n, cyI_add]
  have hm : (((k + (verts es).length - 1) % (verts es).length : Nat) : Int) = (k : Int) - 1 + (1 - (((k + (verts es).length - 1) / (verts es).length : Nat) : Int)) * ((verts es).length : Int) := by
   have h1 := Nat.div_add_mod (k + (verts es).length - 1) (verts es).length
   rw [Int.sub_mul, Int.one_mul, Int.mul_comm]
   have h2 : (((verts es).length * ((k + (verts es).length - 1) / (verts es).length) + (k + (verts es).length - 1) % (verts es).length : Nat) : Int) = ((k + (verts es).length - 1 : Nat) : Int) := by rw [h1]
   rw [Int.natCast_add, Int.natCast_mul] at h2
   omega
  rw [hm, hg]
theorem ptsA_all (hO : ocheck es = 0) (hW : WOk ws) (hl : ws.length = es.length) : ptsA es ws = ptsL (allC (sgOf (verts es)) (verts es) (segWd es ws es.length)) := by
 unfold ptsA ptsL allC
 rw [ptP_run hO hW hl _ (Nat.le_refl _)]
theorem addP_sub : ∀ (L P : List Spot) (x : Spot), x ∈ L.foldl addP P → x ∈ P ∨ x ∈ L
 |[], P, x, h => .inl h
 |p :: L, P, x, h => by
  rcases addP_sub L (addP P p) x h with h1 | h1
  ·unfold addP at h1
   split at h1
   ·exact .inl h1
   ·rcases List.mem_append.1 h1 with h2 | h2
    ·exact .inl h2
    ·exact .inr (by rw [List.mem_singleton.1 h2]; exact List.mem_cons_self ..)
  ·exact .inr (List.mem_cons_of_mem _ h1)
theorem dropP_sub : ∀ (f : Nat) (L : List Spot) (x : Spot), x ∈ dropP f L → x ∈ L
 |0, _, _, h => h
 |f + 1, L, x, h => by
  unfold dropP at h
  split at h
  ·exact List.mem_of_mem_take (dropP_sub f _ x h)
  ·exact h
theorem ptsA_R (hO : ocheck es = 0) (hW : WOk ws) (hl : ws.length = es.length) : ∀ s, s ∈ ptsA es ws → inR 4000000 s := fun s hs => by
 rw [ptsA_all hO hW hl] at hs
 unfold ptsL at hs
 have h1 := dropP_sub _ _ _ hs
 rcases addP_sub _ _ _ h1 with h2 | h2
 ·cases h2
 ·obtain ⟨i, hi⟩ := runG_mem _ h2
  exact coC_R (out_of hO hW hl) i s hi
theorem rngE_zero (l : List Spot) : rngE l = 0 ↔ AllB l := by
 unfold rngE
 rw [firstE_zero]
 have e : ∀ s : Spot, inSB s 1048576 = true ↔ inB s := fun s => decide_eq_true_iff
 constructor
 ·intro h k hk
  have := h k hk
  split at this
  ·rename_i hc; exact (e _).1 hc
  ·cases this
 ·intro h k hk
  rw [if_pos ((e _).2 (h k hk))]
theorem alE_zero : alE es ws = 0 ↔ AllB (ptsA es ws) ∧ pcheck (ptsA es ws) = 0 ∧ sgOf (ptsA es ws) = sgOf (verts es) := by
 unfold alE
 constructor
 ·intro h
  split at h
  ·rename_i hc; exact absurd h hc
  rename_i h1
  split at h
  ·rename_i hc; exact absurd h hc
  rename_i h2
  split at h
  ·cases h
  rename_i h3
  exact ⟨(rngE_zero _).1 (Classical.not_not.1 h1), Classical.not_not.1 h2, Classical.not_not.1 h3⟩
 ·rintro ⟨h1, h2, h3⟩
  rw [if_neg (fun h => h ((rngE_zero _).2 h1)), if_neg (fun h => h h2), if_neg (fun h => h h3)]
theorem turnW_len (f : Bool) (n : Nat) (ws : List Int) : (turnW f n ws).length = ws.length := by
 unfold turnW mirW
 split
 ·split
  ·exact mixI_len _ _ _
  ·rfl
 ·rfl
theorem turnW_ok {f : Bool} {n : Nat} {ws : List Int} (hl : ws.length = n) (hW : WOk ws) : WOk (turnW f n ws) := by
 cases f with
 |false => exact hW
 |true =>
  refine ⟨fun i hi => ?_⟩
  rw [turnW_len] at hi
  rw [turnW_get hl (by omega)]
  exact hW.r _ (by rw [hl]; exact turnI_lt (by omega))
theorem verts_rel (f : Bool) (q : Int) (J : Joined es) : Rel f q (verts es) (verts (turnE f q es)) ∧ ∀ i, cy (verts (turnE f q es)) i = applyT f q (cy (verts es) (if f = true then (((gE es 0).2.length - 1 : Nat) : Int) - i else i)) := by
 have hN := verts_turn_len f q J.n0
 have hp := J.pos
 cases f with
 |false =>
  have r : ∀ i, cy (verts (turnE false q es)) i = applyT false q (cy (verts es) i) := fun i => by rw [verts_false, cy_map _ hp]
  refine ⟨⟨hN, 0, fun i => ?_⟩, fun i => ?_⟩
  ·rw [r]; simp only [Bool.false_eq_true, if_false]; rw [Int.zero_add]
  ·rw [r]; rfl
 |true =>
  refine ⟨⟨hN, (((gE es 0).2.length - 1 : Nat) : Int), fun i => ?_⟩, fun i => ?_⟩
  ·rw [J.turn q]; rfl
  ·rw [J.turn q]; rfl
theorem al_turn (f : Bool) (q : Int) (hO : ocheck es = 0) (hW : WOk ws) (hl : ws.length = es.length) :
  (alE (turnE f q es) (turnW f es.length ws) = 0 ↔ alE es ws = 0) ∧ (alE es ws = 0 → RotC (turnL f q (ptsA es ws)) (ptsA (turnE f q es) (turnW f es.length ws))) := by
 obtain ⟨J, B, hp, hw⟩ := oc_all hO
 have hO' := (ocheck_turn f q hw).2 hO
 have hW' : WOk (turnW f es.length ws) := turnW_ok hl hW
 have hl' : (turnW f es.length ws).length = (turnE f q es).length := by rw [turnW_len, turnE_len]; exact hl
 obtain ⟨RV, hV⟩ := verts_rel f q J
 have hsg := RV.sg B
 have hWd : ∀ i, cyI (segWd (turnE f q es) (turnW f es.length ws) (turnE f q es).length) i = cyI (segWd es ws es.length) (if f = true then (((gE es 0).2.length - 1 : Nat) : Int) - 1 - i else i) := fun i => by
  rw [turnE_len]
  cases f with
  |false =>
   show cyI (segWd (turnE false q es) ws es.length) i = _
   rw [segWd_false q es ws _ (Nat.le_refl _)]; rfl
  |true => rw [segWd_true J q hl]; rfl
 have key := pts_all (f := f) (q := q) (out_of hO hW hl) RV.len hV hWd
 rw [← ptsA_all hO hW hl] at key
 have e2 : ptsA (turnE f q es) (turnW f es.length ws) = ptsL (allC (sgOf (verts es)) (verts (turnE f q es)) (segWd (turnE f q es) (turnW f es.length ws) (turnE f q es).length)) := by
  rw [ptsA_all hO' hW' hl', hsg]
 rw [← e2] at key
 rcases key with ⟨k1, k2⟩ | k
 ·have n1 : ¬ alE es ws = 0 := fun h => by have := (pcheck_len (alE_zero.1 h).2.1).1; omega
  have n2 : ¬ alE (turnE f q es) (turnW f es.length ws) = 0 := fun h => by have := (pcheck_len (alE_zero.1 h).2.1).1; omega
  exact ⟨⟨fun h => absurd h n2, fun h => absurd h n1⟩, fun h => absurd h n1⟩
 ·have R := rel_of k
  have hb := R.allB (ptsA_R hO hW hl)
  refine ⟨?_, fun _ => k⟩
  rw [alE_zero, alE_zero]
  constructor
  ·rintro ⟨a1, a2, a3⟩
   have b1 := hb.1 a1
   exact ⟨b1, (R.pc b1).1 a2, by rw [← R.sg b1, a3, hsg]⟩
  ·rintro ⟨a1, a2, a3⟩
   exact ⟨hb.2 a1, (R.pc a1).2 a2, by rw [R.sg a1, a3, hsg]⟩
/- the normal form of the turned cut polygon -/
theorem al_norm (f : Bool) (q : Int) (hO : ocheck es = 0) (hW : WOk ws) (hl : ws.length = es.length) (h0 : alE es ws = 0) :
  pcheck (turnL f q (ptsA es ws)) = 0 ∧ pcheck (ptsA (turnE f q es) (turnW f es.length ws)) = 0 ∧ normG (turnL f q (ptsA es ws)) = normG (ptsA (turnE f q es) (turnW f es.length ws)) := by
 obtain ⟨h1, h2⟩ := al_turn f q hO hW hl
 have k := h2 h0
 obtain ⟨a1, a2, a3⟩ := alE_zero.1 h0
 have R : Rel f q (ptsA es ws) (turnL f q (ptsA es ws)) := rel_of (RotC.refl _)
 have p1 := (R.pc a1).2 a2
 have p2 := (alE_zero.1 (h1.2 h0)).2.1
 exact ⟨p1, p2, normG_rot k p1⟩
end
/- a moved line, turned -/
theorem movedS_turn (f : Bool) (q : Int) {l : List Spot} {a b : Spot} (hl : lcheck l = 0) (ha : inR 100000 a) (hb : inR 100000 b) :
  turnL f q (movedS l a b) = movedS (turnL f q l) (applyT f q (if f = true then b else a)) (applyT f q (if f = true then a else b)) := by
 obtain ⟨h2, h40, hin, _⟩ := (lcheck_iff l).1 hl
 refine list_ext_gS' (by rw [turnL_len, movedS_len, movedS_len, turnL_len]) fun k hk => ?_
 rw [turnL_len, movedS_len] at hk
 rw [turnL_get (by rw [movedS_len]; exact hk), movedS_len, movedS_g (by split <;> omega), movedS_g (by rw [turnL_len]; exact hk)]
 have e1 : ∀ j, mvS l a b j = mv1 (gS l j) a b ((l.length : Int) - 1) j := fun j => rfl
 have e2 : ∀ x y, mvS (turnL f q l) x y k = mv1 (gS (turnL f q l) k) x y ((l.length : Int) - 1) k := fun x y => by unfold mvS mv1; rw [turnL_len]
 rw [e1, e2, turnL_get hk]
 cases f
 ·simp only [Bool.false_eq_true, if_false]
  rw [comm_apply false q _ _ _ _ _ (by omega) (by omega) (by omega) (hin k hk) ha hb]
 ·simp only [if_true]
  rw [comm_apply true q _ _ _ _ _ (by omega) (by omega) (by omega) (hin _ (by omega)) hb ha, mv1_rev]
  congr 2
  omega
/- the corners of a turned piece -/
theorem turnC_len (f : Bool) (q : Int) (n : Nat) (cs : List Spot) : (turnC f q n cs).length = cs.length := by
 unfold turnC mirC
 split
 ·split
  ·rw [mixS_len, List.length_map]
  ·rw [List.length_map]
 ·rw [List.length_map]
theorem turnC_get (f : Bool) (q : Int) {cs : List Spot} {n i : Nat} (hn : cs.length = n) (hi : i < n) : gS (turnC f q n cs) i = applyT f q (gS cs (if f = true then (n - i + 1) % n else i)) := by
 unfold turnC
 cases f
 ·simp only [Bool.false_eq_true, if_false]
  rw [gS_map (by omega)]
 ·simp only [if_true]
  unfold mirC
  rw [if_pos (by rw [List.length_map]; exact hn), mixS_get (by rw [List.length_map]; omega), if_pos hi]
  unfold mirCF
  rw [gS_map (by rw [hn]; exact Nat.mod_lt _ (by omega))]
theorem turnC_idx (f : Bool) {n i : Nat} (hi : i < n) :
  (if f = true then (n - (i % n) + 1) % n else i % n) = (if f = true then (turnI f n i + 1) % n else turnI f n i % n) ∧ (if f = true then (n - ((i + 1) % n) + 1) % n else (i + 1) % n) = (if f = true then turnI f n i % n else (turnI f n i + 1) % n) := by
 cases f
 ·simp [turnI]
 ·simp only [if_true, turnI]
  rw [Nat.mod_eq_of_lt hi, Nat.mod_add_mod]
  refine ⟨rfl, ?_⟩
  rw [Nat.mod_mod]
  rcases Nat.lt_or_ge (i + 1) n with h | h
  ·rw [Nat.mod_eq_of_lt h, show n - (i + 1) + 1 = n - i from by omega]
  ·have : i + 1 = n := by omega
   rw [this, Nat.mod_self, Nat.sub_zero, show n - i = 1 from by omega, Nat.add_mod_left]
theorem gradedE_turn (f : Bool) (q : Int) {es : List Edge} {cs : List Spot} {m : Int} (h0 : -100 ≤ m) (h1 : m ≤ 100) (hlen : cs.length = es.length) (hc : allB (cornF cs) cs.length = true) (hl : ∀ i, i < es.length → lcheck (gE es i).2 = 0) :
  gradedE (turnE f q es) (turnC f q es.length cs) m = turnE f q (gradedE es cs m) := by
 refine list_ext_gE (by rw [gradedE_len, turnE_len, turnE_len, gradedE_len]) fun i hi => ?_
 rw [gradedE_len, turnE_len] at hi
 have hs := turnI_lt (f := f) hi
 have hn : 0 < es.length := by omega
 rw [gradedE_get (by rw [turnE_len]; exact hi), turnE_get (by rw [gradedE_len]; exact hi), gradedE_len, gradedE_get hs]
 unfold gradedAt
 rw [turnE_get hi, turnC_len, hlen]
 simp only
 have hR : ∀ j, j < es.length → inR 1000 (gS cs j) := fun j hj => cornF_bd hc (by rw [hlen]; exact hj)
 have hm : ∀ j, j < es.length → inR 100000 (mulS m (gS cs j)) := fun j hj => (mulS_R h0 h1 (hR j hj)).2
 have ha := Nat.mod_lt (turnI f es.length i) hn
 have hb := Nat.mod_lt (turnI f es.length i + 1) hn
 rw [movedS_turn f q (hl _ hs) (hm _ ha) (hm _ hb)]
 obtain ⟨x1, x2⟩ := turnC_idx f hi
 rw [turnC_get f q hlen (Nat.mod_lt i hn), turnC_get f q hlen (Nat.mod_lt (i + 1) hn), x1, x2]
 congr 2
 ·rw [commM_apply h0 h1 f q _ (hR _ (by split <;> assumption))]
  congr 1
  split <;> rfl
 ·rw [commM_apply h0 h1 f q _ (hR _ (by split <;> assumption))]
  congr 1
  split <;> rfl
theorem turnJ_lt {f : Bool} {n i : Nat} (h : i < n) : (if f = true then (n - i + 1) % n else i) < n := by
 split
 ·exact Nat.mod_lt _ (by omega)
 ·exact h
theorem turnJ_turnJ {f : Bool} {n i : Nat} (h : i < n) : (if f = true then (n - (if f = true then (n - i + 1) % n else i) + 1) % n else (if f = true then (n - i + 1) % n else i)) = i := by
 cases f
 ·simp
 ·simp only [if_true]
  rcases Nat.eq_zero_or_pos i with h0 | h0
  ·subst h0
   rcases Nat.lt_or_ge 1 n with h1 | h1
   ·rw [Nat.sub_zero, Nat.add_mod_left, Nat.mod_eq_of_lt h1, show n - 1 + 1 = n from by omega, Nat.mod_self]
   ·have : n = 1 := by omega
    subst this; rfl
  ·rcases Nat.lt_or_ge 1 i with h1 | h1
   ·rw [Nat.mod_eq_of_lt (show n - i + 1 < n by omega), show n - (n - i + 1) + 1 = i from by omega, Nat.mod_eq_of_lt h]
   ·have : i = 1 := by omega
    subst this
    rw [show n - 1 + 1 = n from by omega, Nat.mod_self, Nat.sub_zero, Nat.add_mod_left, Nat.mod_eq_of_lt h]
theorem corn_turn (f : Bool) (q : Int) {cs : List Spot} (hw : WfL cs) (n : Nat) (hn : cs.length = n) : allB (cornF (turnC f q n cs)) (turnC f q n cs).length = true ↔ allB (cornF cs) cs.length = true := by
 rw [cornF_iff, cornF_iff, turnC_len]
 constructor
 ·intro h j hj
  rw [hn] at hj
  have := h (if f = true then (n - j + 1) % n else j) (by rw [hn]; exact turnJ_lt hj)
  rw [turnC_get f q hn (turnJ_lt hj), turnJ_turnJ hj] at this
  exact (inR_apply (by omega) (hw j (by rw [hn]; exact hj)) f q).1 this
 ·intro h j hj
  rw [hn] at hj
  have hj' := turnJ_lt (f := f) hj
  rw [turnC_get f q hn hj]
  exact (inR_apply (by omega) (hw _ (by rw [hn]; exact hj')) f q).2 (h _ (by rw [hn]; exact hj'))
theorem wf_graded {es : List Edge} {cs : List Spot} {m : Int} (h0 : -100 ≤ m) (h1 : m ≤ 100) (hlen : cs.length = es.length) (hc : allB (cornF cs) cs.length = true) (hl : ∀ i, i < es.length → lcheck (gE es i).2 = 0) : WfE (gradedE es cs m) := by
 intro i hi k hk
 rw [gradedE_len] at hi
 rw [gradedE_get hi] at hk ⊢
 unfold gradedAt at hk ⊢
 simp only [movedS_len] at hk ⊢
 rw [movedS_g hk]
 obtain ⟨h2, h40, hin, _⟩ := (lcheck_iff _).1 (hl i hi)
 have hn : 0 < cs.length := by omega
 have hm : ∀ j, j < cs.length → inR 100000 (mulS m (gS cs j)) := fun j hj => (mulS_R h0 h1 (cornF_bd hc hj)).2
 exact inR_wf (B := 2000000) (by omega) (mv1_in (by omega) (by omega) (by omega) (hin k hk) (hm _ (Nat.mod_lt _ hn)) (hm _ (Nat.mod_lt _ hn)))
theorem GOk_turn (f : Bool) (q : Int) {es : List Edge} {cs : List Spot} {m : Int} (hw : WfE es) (hwc : WfL cs) : GOk (turnE f q es) (turnC f q es.length cs) m ↔ GOk es cs m := by
 constructor
 ·intro h
  have hlen : cs.length = es.length := by have := h.len; rwa [turnC_len, turnE_len] at this
  have hc := (corn_turn f q hwc es.length hlen).1 h.corn
  have ok := (ocheck_turn f q hw).1 h.ok
  have hl := fun i hi => ocheck_line ok (i := i) hi
  have e := gradedE_turn f q h.m0 h.m1 hlen hc hl
  have ok' := h.ok'
  rw [e] at ok'
  exact ⟨h.m0, h.m1, hlen, hc, ok, (ocheck_turn f q (wf_graded h.m0 h.m1 hlen hc hl)).1 ok'⟩
 ·intro h
  have hl := fun i hi => ocheck_line h.ok (i := i) hi
  have e := gradedE_turn f q h.m0 h.m1 h.len h.corn hl
  exact ⟨h.m0, h.m1, by rw [turnC_len, turnE_len]; exact h.len, (corn_turn f q hwc es.length h.len).2 h.corn, (ocheck_turn f q hw).2 h.ok, by rw [e]; exact (ocheck_turn f q (wf_graded h.m0 h.m1 h.len h.corn hl)).2 h.ok'⟩
theorem gradedR_turn (f : Bool) (q : Int) {es : List Edge} {cs : List Spot} {m : Int} (hw : WfE es) (hwc : WfL cs) : gradedR (turnE f q es) (turnC f q es.length cs) m = 0 ↔ gradedR es cs m = 0 := by
 rw [gradedR_iff, gradedR_iff, GOk_turn f q hw hwc]
theorem gradedE_turn' (f : Bool) (q : Int) {es : List Edge} {cs : List Spot} {m : Int} (h : GOk es cs m) : gradedE (turnE f q es) (turnC f q es.length cs) m = turnE f q (gradedE es cs m) :=
 gradedE_turn f q h.m0 h.m1 h.len h.corn fun _ hi => ocheck_line h.ok hi
def tnPc (p : Pc) (q : Int) : Pc := ⟨turnE false q p.es, turnC false q p.es.length p.cs, p.ws, p.ns⟩
theorem tn_get {es : List Edge} {q : Int} {i : Nat} (h : i < es.length) : (gE (turnE false q es) i).2 = (gE es i).2.map (applyT false q) := by
 rw [turnE_get h]; rfl
theorem tn_len {q : Int} {l : List Spot} (hw : WfL l) : lengthN (l.map (applyT false q)) = lengthN l := by
 have hc := turnL_lcheck (f := false) (q := q) hw
 have e : turnL false q l = l.map (applyT false q) := rfl
 rw [e] at hc
 unfold lengthN
 by_cases h : lcheck l = 0
 ·rw [if_neg (fun h' => h' (hc.2 h)), if_neg (fun h' => h' h), List.length_map]
  obtain ⟨_, _, hin⟩ := lcheck_zero h
  exact lenTo_map (fun _ _ ha hb => seg_turn false q ha hb) hin _ (Nat.le_refl _)
 ·rw [if_pos (fun h' => h (hc.1 h')), if_pos h]
theorem tn_base {p : Pc} {q : Int} (hw : WfE p.es) {k : Nat} (hk : k < p.es.length) : baseN (tnPc p q) k = baseN p k := by
 unfold baseN
 simp only [tnPc]
 rw [tn_get hk]
 exact tn_len (hw k hk)
theorem tn_nt {p : Pc} {q m : Int} (hw : WfE p.es) (i : Nat) : NtOk (tnPc p q) m i ↔ NtOk p m i := by
 have hl : (tnPc p q).es.length = p.es.length := turnE_len _ _ _
 constructor
 ·intro h
  have h0 : 0 ≤ (gS p.ns i).1 := h.e0
  have h1 : (gS p.ns i).1 < p.es.length := by have := h.e1; rw [hl] at this; exact this
  have e := tn_base (q := q) hw (k := (gS p.ns i).1.toNat) (by omega)
  exact ⟨h0, h1, by have := h.b1; rw [← e]; exact this, h.a0, by have := h.a1; rw [← e]; exact this⟩
 ·intro h
  have e := tn_base (q := q) hw (k := (gS p.ns i).1.toNat) (by have := h.e0; have := h.e1; omega)
  exact ⟨h.e0, by rw [hl]; exact h.e1, by have := h.b1; rw [← e] at this; exact this, h.a0, by have := h.a1; rw [← e] at this; exact this⟩
theorem tn_ok {p : Pc} {q m : Int} (hw : WfE p.es) (hc : WfL p.cs) : PlOk (tnPc p q) m ↔ PlOk p m := by
 constructor
 ·intro h; exact ⟨(gradedR_turn false q hw hc).1 h.g, h.n, fun i hi => (tn_nt hw i).1 (h.i i hi)⟩
 ·intro h; exact ⟨(gradedR_turn false q hw hc).2 h.g, h.n, fun i hi => (tn_nt hw i).2 (h.i i hi)⟩
theorem tn_E {p : Pc} {q m : Int} (hw : WfE p.es) (hc : WfL p.cs) : plE (tnPc p q) m = 0 ↔ plE p m = 0 := by
 rw [plE_zero, plE_zero]; exact tn_ok hw hc
structure PomX where
 nm : ByteArray
 ps : List Int
 es : List Int
 pl : Int
 mi : Int
instance : Inhabited PomX := ⟨⟨⟨#[]⟩, [], [], 0, 0⟩⟩
theorem styE_zero {x : StyX} (h : styE x = 0) : wholeE x = 0 ∧ (∀ k, k < x.ps.length → pieceE x.ps k = 0) ∧ (∀ k, k < x.us.length → useE x k = 0) ∧ ∀ k, k < x.ss.length → joinE x k = 0 := by
 unfold styE at h
 split at h
 ·rename_i h1; exact absurd h h1
 rename_i h1
 split at h
 ·rename_i h2; exact absurd h h2
 rename_i h2
 split at h
 ·rename_i h3; exact absurd h h3
 rename_i h3
 exact ⟨Classical.not_not.1 h1, (firstE_zero _ _).1 (Classical.not_not.1 h2), (firstE_zero _ _).1 (Classical.not_not.1 h3), (firstE_zero _ _).1 h⟩
theorem styE_mk {x : StyX} (h1 : wholeE x = 0) (h2 : ∀ k, k < x.ps.length → pieceE x.ps k = 0) (h3 : ∀ k, k < x.us.length → useE x k = 0) (h4 : ∀ k, k < x.ss.length → joinE x k = 0) : styE x = 0 := by
 unfold styE
 rw [if_neg (fun h => h h1), if_neg (fun h => h ((firstE_zero _ _).2 h2)), if_neg (fun h => h ((firstE_zero _ _).2 h3))]
 exact (firstE_zero _ _).2 h4
/- what a piece in order gives -/
structure PxOk (X : PcX) : Prop where
 g : GOk X.p.es X.p.cs 0
 n : plE X.p 0 = 0
 w : X.p.ws.length = X.p.es.length
theorem pieceE_ok {l : List PcX} {k : Nat} (h : pieceE l k = 0) : PxOk (gPx l k) := by
 unfold pieceE at h
 split at h
 ·cases h
 split at h
 ·cases h
 split at h
 ·cases h
 split at h
 ·rename_i h1; exact absurd h h1
 rename_i h1
 split at h
 ·rename_i h2; exact absurd h h2
 rename_i h2
 split at h
 ·cases h
 rename_i h3
 exact ⟨(gradedR_iff _ _ _).1 (Classical.not_not.1 h1), Classical.not_not.1 h2, by omega⟩
theorem whole_ms {x : StyX} (h : wholeE x = 0) : x.ms.length = x.sz.length ∧ ∀ i, i < x.ms.length → -100 ≤ gI x.ms i ∧ gI x.ms i ≤ 100 := by
 unfold wholeE at h
 split at h
 ·cases h
 split at h
 ·cases h
 split at h
 ·cases h
 rename_i h3
 split at h
 ·cases h
 split at h
 ·cases h
 split at h
 ·cases h
 split at h
 ·cases h
 rename_i h7
 exact ⟨by omega, fun i hi => of_decide_eq_true ((allB_iff _ _).1 (eq_true_of_ne_false h7) i hi)⟩
def tPc (f : Bool) (q : Int) (p : Pc) : Pc := ⟨turnE f q p.es, turnC f q p.es.length p.cs, turnW f p.es.length p.ws, turnNs f p.es p.ns⟩
def tSt (f : Bool) (q : Int) (x : StyX) : StyX := ⟨x.nm, x.sz, x.ms, x.ps.map fun X => ⟨X.nm, X.gr, tPc f q X.p⟩, x.us, [], x.no⟩
theorem turnNs_len (f : Bool) (es : List Edge) (ns : List Spot) : (turnNs f es ns).length = ns.length := by
 unfold turnNs mirNs
 split
 ·exact mixS_len _ _ _
 ·rfl
theorem tPc_pl {f : Bool} {q : Int} {p : Pc} (hw : WfE p.es) (hc : WfL p.cs) (h : plE p 0 = 0) : plE (tPc f q p) 0 = 0 := by
 cases f with
 |false => exact (tn_E hw hc).2 h
 |true =>
  have P := plE_zero.1 h
  have G := (gradedR_iff _ _ _).1 P.g
  refine plE_zero.2 ⟨(gradedR_turn true q hw hc).2 P.g, by show (turnNs true p.es p.ns).length ≤ 16; rw [turnNs_len]; exact P.n, fun i hi => ?_⟩
  have hi' : i < p.ns.length := by rw [← turnNs_len true p.es p.ns]; exact hi
  have hn := P.i i hi'
  obtain ⟨e, he⟩ : ∃ e : Nat, e = (gS p.ns i).1.toNat := ⟨_, rfl⟩
  have h0 := hn.e0; have h1 := hn.e1
  have hel : e < p.es.length := by omega
  have hv : gS (tPc true q p).ns i = (((turnI true p.es.length e : Nat) : Int), mirAt (lengthN (gE p.es e).2) (gS p.ns i).2) := by
   show gS (mirNs p.es p.ns) i = _
   unfold mirNs
   rw [mixS_get hi', if_pos hi']
   unfold mirNF
   rw [if_pos ⟨h0, h1⟩, ← he]
   rfl
  have hlt := turnI_lt (f := true) hel
  have hb : baseN (tPc true q p) (turnI true p.es.length e) = baseN p e := by
   unfold baseN
   show lengthN (gE (turnE true q p.es) (turnI true p.es.length e)).2 = _
   rw [turnE_get hlt, turnI_turnI hel]
   exact lengthN_turn true q (ocheck_line G.ok hel)
  have b1 := hn.b1; have a0 := hn.a0; have a1 := hn.a1
  rw [← he] at b1 a1
  have hm : mirAt (lengthN (gE p.es e).2) (gS p.ns i).2 = (baseN p e : Int) - (gS p.ns i).2 := by
   unfold mirAt baseN
   rw [if_pos ⟨a0, a1⟩]
  rw [hm] at hv
  refine ⟨?_, ?_, ?_, ?_, ?_⟩
  ·rw [hv]; simp only; omega
  ·rw [hv]
   show ((turnI true p.es.length e : Nat) : Int) < ((turnE true q p.es).length : Int)
   rw [turnE_len]; omega
  ·rw [hv]; simp only [Int.toNat_natCast]; rw [hb]; exact b1
  ·rw [hv]; simp only; omega
  ·rw [hv]; simp only [Int.toNat_natCast]; rw [hb]; omega
/- widths in order -/
theorem pieceE_w {l : List PcX} {k : Nat} (h : pieceE l k = 0) : WOk (gPx l k).p.ws := by
 unfold pieceE at h
 split at h
 ·cases h
 split at h
 ·cases h
 split at h
 ·cases h
 split at h
 ·rename_i h1; exact absurd h h1
 split at h
 ·rename_i h2; exact absurd h h2
 split at h
 ·cases h
 split at h
 ·cases h
 rename_i h3
 exact ⟨fun i hi => of_decide_eq_true ((allB_iff _ _).1 (eq_true_of_ne_false h3) i hi)⟩
theorem wok_all {ws : List Int} (h : WOk ws) : allB (fun i => decide (0 ≤ gI ws i ∧ gI ws i ≤ 500)) ws.length = true := (allB_iff _ _).2 fun i hi => decide_eq_true (h.r i hi)
theorem tSt_get {x : StyX} {f : Bool} {q : Int} {k : Nat} (h : k < x.ps.length) : gPx (tSt f q x).ps k = ⟨(gPx x.ps k).nm, (gPx x.ps k).gr, tPc f q (gPx x.ps k).p⟩ := by
 rw [gPx_eq (by simpa [tSt] using h), gPx_eq h]; simp [tSt]
theorem tSt_len (x : StyX) (f : Bool) (q : Int) : (tSt f q x).ps.length = x.ps.length := by simp [tSt]
theorem tSt_piece {x : StyX} {f : Bool} {q : Int} {k : Nat} (hk : k < x.ps.length) (hw : WfE (gPx x.ps k).p.es) (hc : WfL (gPx x.ps k).p.cs) (h : pieceE x.ps k = 0) : pieceE (tSt f q x).ps k = 0 := by
 have hok := pieceE_ok h
 have hW := pieceE_w h
 have hn : plE (tPc f q (gPx x.ps k).p) 0 = 0 := tPc_pl hw hc hok.n
 have hz : gradedR (gPx x.ps k).p.es (gPx x.ps k).p.cs 0 = 0 := (gradedR_iff _ _ _).2 hok.g
 have hz' : gradedR (tPc f q (gPx x.ps k).p).es (tPc f q (gPx x.ps k).p).cs 0 = 0 := (gradedR_turn f q hw hc).2 hz
 have hW' : WOk (tPc f q (gPx x.ps k).p).ws := turnW_ok hok.w hW
 have hE : (tPc f q (gPx x.ps k).p).es.length = (gPx x.ps k).p.es.length := turnE_len _ _ _
 have hL : (tPc f q (gPx x.ps k).p).ws.length = (gPx x.ps k).p.ws.length := turnW_len _ _ _
 have e := tSt_get (f := f) (q := q) hk
 have ha : (List.range k).any (fun j => decide ((gPx (tSt f q x).ps j).nm.data.toList = (gPx (tSt f q x).ps k).nm.data.toList)) = (List.range k).any (fun j => decide ((gPx x.ps j).nm.data.toList = (gPx x.ps k).nm.data.toList)) := by
  rw [e]
  rw [Bool.eq_iff_iff, List.any_eq_true, List.any_eq_true]
  constructor
  ·rintro ⟨j, hj, hd⟩
   refine ⟨j, hj, ?_⟩
   have hj' := List.mem_range.1 hj
   rw [tSt_get (show j < x.ps.length by omega)] at hd
   exact hd
  ·rintro ⟨j, hj, hd⟩
   refine ⟨j, hj, ?_⟩
   have hj' := List.mem_range.1 hj
   rw [tSt_get (show j < x.ps.length by omega)]
   exact hd
 unfold pieceE at h ⊢
 rw [ha, e]
 simp only
 rw [hz', hn, wok_all hW', hL, hE]
 rw [hz, hok.n, wok_all hW] at h
 exact h
theorem tSt_ok {x : StyX} {f : Bool} {q : Int} (hw : ∀ k, k < x.ps.length → WfE (gPx x.ps k).p.es ∧ WfL (gPx x.ps k).p.cs) (h : styE x = 0) : styE (tSt f q x) = 0 := by
 obtain ⟨h1, h2, h3, _⟩ := styE_zero h
 refine styE_mk ?_ (fun k hk => ?_) (fun k hk => ?_) (fun k hk => absurd hk (Nat.not_lt_zero _))
 ·unfold wholeE at h1 ⊢
  rw [tSt_len]
  have e : (tSt f q x).ss.length = 0 := rfl
  rw [e]
  show (if nameB x.nm = false ∨ x.sz.length = 0 then _ else if allB (fun i => szB (gB x.sz i)) x.sz.length = false then _ else if x.ms.length ≠ x.sz.length ∨ ¬ (0 : Int) ∈ x.ms then _ else if szDup x.sz x.sz.length = true then _ else if 12 < x.sz.length ∨ 12 < x.ps.length ∨ 12 < x.us.length then _ else if 24 < 0 ∨ 16 < x.no then _ else if allB (fun i => decide (-100 ≤ gI x.ms i ∧ gI x.ms i ≤ 100)) x.ms.length = false then _ else _) = _
  split at h1
  ·cases h1
  rename_i c1
  split at h1
  ·cases h1
  rename_i c2
  split at h1
  ·cases h1
  rename_i c3
  split at h1
  ·cases h1
  rename_i c4
  split at h1
  ·cases h1
  rename_i c5
  split at h1
  ·cases h1
  rename_i c6
  split at h1
  ·cases h1
  rename_i c7
  exact (if_neg c1).trans ((if_neg c2).trans ((if_neg c3).trans ((if_neg c4).trans ((if_neg c5).trans ((if_neg (show ¬ (24 < 0 ∨ 16 < x.no) from by omega)).trans (if_neg c7))))))
 ·rw [tSt_len] at hk
  exact tSt_piece hk (hw k hk).1 (hw k hk).2 (h2 k hk)
 ·have := h3 k hk
  unfold useE at this ⊢
  rw [tSt_len]; exact this
/- the cut polygons -/
section
variable {p : Pc} {m : Int}
theorem cut_turn (f : Bool) (q : Int) (hw : WfE p.es) (hc : WfL p.cs) (hl : p.ws.length = p.es.length) (hW : WOk p.ws) :
  (cutE (tPc f q p) m = 0 ↔ cutE p m = 0) ∧ (cutE p m = 0 → pcheck (turnL f q (ptsA (gradedE p.es p.cs m) p.ws)) = 0 ∧ pcheck (ptsA (gradedE (tPc f q p).es (tPc f q p).cs m) (tPc f q p).ws) = 0 ∧
   normG (turnL f q (ptsA (gradedE p.es p.cs m) p.ws)) = normG (ptsA (gradedE (tPc f q p).es (tPc f q p).cs m) (tPc f q p).ws)) := by
 have hR : gradedR (tPc f q p).es (tPc f q p).cs m = 0 ↔ gradedR p.es p.cs m = 0 := gradedR_turn f q hw hc
 unfold cutE
 by_cases hz : gradedR p.es p.cs m = 0
 ·rw [if_neg (fun h => h (hR.2 hz)), if_neg (fun h => h hz)]
  have G := (gradedR_iff _ _ _).1 hz
  have e1 : gradedE (tPc f q p).es (tPc f q p).cs m = turnE f q (gradedE p.es p.cs m) := gradedE_turn' f q G
  have e2 : (tPc f q p).ws = turnW f (gradedE p.es p.cs m).length p.ws := by rw [gradedE_len]; rfl
  rw [e1, e2]
  have hl' : p.ws.length = (gradedE p.es p.cs m).length := by rw [gradedE_len]; exact hl
  exact ⟨(al_turn f q G.ok' hW hl').1, fun h0 => al_norm f q G.ok' hW hl' h0⟩
 ·rw [if_pos hz, if_pos (fun h => hz (hR.1 h))]
  exact ⟨⟨fun h => absurd (hR.1 h) hz, fun h => absurd h hz⟩, fun h => absurd h hz⟩
theorem cutOk_of (hl : p.ws.length = p.es.length) (hW : WOk p.ws) (hz : gradedR p.es p.cs m = 0) : CutOk p m := by
 have G := (gradedR_iff _ _ _).1 hz
 have hO := G.ok'
 have hl' : p.ws.length = (gradedE p.es p.cs m).length := by rw [gradedE_len]; exact hl
 obtain ⟨J, B, hp, hwf⟩ := oc_all hO
 have O := out_of hO hW hl'
 have hpc := pcheck_len hp
 have hcb : CB = 1049600 := rfl
 obtain ⟨E, hE⟩ : ∃ E, E = gradedE p.es p.cs m := ⟨_, rfl⟩
 rw [← hE] at hO hl' O B hpc J
 suffices key : ocheck E = 0 ∧ VOk (verts E) ∧ AOk E p.ws by
  rw [hE] at key
  exact ⟨key.1, hW, key.2.1, key.2.2⟩
 have hnx : ∀ i, i < (verts E).length → 1 ≤ sqN (gS (verts E) i) (gS (verts E) ((i + 1) % (verts E).length)) := fun i hi => by
  have h := O.d i
  rw [cy_nat hi] at h
  have e : cy (verts E) ((i : Int) + 1) = gS (verts E) ((i + 1) % (verts E).length) := by
   rw [← cy_modn J.pos (i + 1)]; congr 1
  rw [e] at h
  exact h
 refine ⟨hO, ⟨hpc.1, hpc.2, B, hnx, fun i hi => ?_⟩, ⟨fun i hi => ?_, fun i hi => ?_, ?_⟩⟩
 ·have := sqN_le (B i hi) (B ((i + 1) % (verts E).length) (Nat.mod_lt _ J.pos))
  exact fl_all _ (by omega)
 ·obtain ⟨h1, h2, h3, h4⟩ := B i hi
  exact ⟨by omega, by omega⟩
 ·rw [sgP_cy hi O.n]
  obtain ⟨h1, h2, h3, h4⟩ := O.s1 (i : Int)
  obtain ⟨g1, g2, g3, g4⟩ := O.s2 (i : Int)
  exact ⟨⟨by omega, by omega⟩, ⟨by omega, by omega⟩, O.w i⟩
 ·intro k
  induction k with
  |zero => intro _; simp [ptP]
  |succ k ih =>
   intro hk
   have h1 := ih (by omega)
   show ((cornC _ _ _).foldl addP (ptP (verts E) (shOf E p.ws) (segWd E p.ws E.length) k)).length ≤ _
   have h2 := addP_fold_len (cornC (gS (verts E) k) (sgP (verts E) (shOf E p.ws) (segWd E p.ws E.length) ((k + (verts E).length - 1) % (verts E).length)) (sgP (verts E) (shOf E p.ws) (segWd E p.ws E.length) k)) (ptP (verts E) (shOf E p.ws) (segWd E p.ws E.length) k)
   have h3 := (cornC_len (gS (verts E) k) (sgP (verts E) (shOf E p.ws) (segWd E p.ws E.length) ((k + (verts E).length - 1) % (verts E).length)) (sgP (verts E) (shOf E p.ws) (segWd E p.ws E.length) k)).2
   omega
end
end Go.Proofs.YtfegbaokcbjllaaGreat
