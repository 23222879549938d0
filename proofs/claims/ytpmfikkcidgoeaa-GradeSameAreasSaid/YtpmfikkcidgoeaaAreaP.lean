/- Plain: a piece and its turned image have the same areas. -/
import Derived.Test.YtpmfikkcidgoeaaTurnR
namespace Go.Proofs.Ytpmfikkcidgoeaa
open Go.RowKit
def sumZ (G : Int → Int) : Nat → Int
  | 0 => 0
  | n + 1 => sumZ G n + G n
theorem sumZ_congr {G F : Int → Int} (h : ∀ i, G i = F i) : ∀ n, sumZ G n = sumZ F n
  | 0 => rfl
  | n + 1 => by simp only [sumZ]; rw [sumZ_congr h n, h]
theorem sumZ_first (G : Int → Int) : ∀ n, sumZ G (n + 1) = G 0 + sumZ (fun i => G (i + 1)) n
  | 0 => by simp [sumZ]
  | n + 1 => by
    have h := sumZ_first G n
    simp only [sumZ] at h ⊢
    rw [h]
    have : ((n + 1 : Nat) : Int) = (n : Int) + 1 := by omega
    rw [this]; omega
theorem sumZ_shift1 (G : Int → Int) (n : Nat) (hp : ∀ i, G (i + n) = G i) : sumZ (fun i => G (i + 1)) n = sumZ G n := by
  have h := sumZ_first G n
  simp only [sumZ] at h
  have h0 := hp 0
  rw [Int.zero_add] at h0
  omega
theorem sumZ_shiftN (n : Nat) : ∀ (t : Nat) (G : Int → Int), (∀ i, G (i + n) = G i) → sumZ (fun i => G (i + t)) n = sumZ G n
  | 0, G, _ => sumZ_congr (fun i => by simp) n
  | t + 1, G, hp => by
    have h := sumZ_shiftN n t (fun i => G (i + 1)) (fun i => by rw [show i + n + 1 = i + 1 + n from by omega]; exact hp _)
    rw [sumZ_shift1 G n hp] at h
    rw [← h]
    refine sumZ_congr (fun i => ?_) n
    show G (i + ((t + 1 : Nat) : Int)) = G (i + t + 1)
    congr 1; omega
theorem sumZ_shift (n : Nat) (G : Int → Int) (hp : ∀ i, G (i + n) = G i) (t : Int) : sumZ (fun i => G (i + t)) n = sumZ G n := by
  rcases Int.le_total 0 t with h | h
  · obtain ⟨k, rfl⟩ : ∃ k : Nat, t = k := ⟨t.toNat, by omega⟩
    exact sumZ_shiftN n k G hp
  · obtain ⟨k, rfl⟩ : ∃ k : Nat, t = -(k : Int) := ⟨(-t).toNat, by omega⟩
    have h2 := sumZ_shiftN n k (fun i => G (i + -(k : Int))) (fun i => by rw [show i + n + -(k : Int) = i + -(k : Int) + n from by omega]; exact hp _)
    rw [← h2]
    exact sumZ_congr (fun i => by congr 1; omega) n
theorem sumZ_rev0 (G : Int → Int) : ∀ (n : Nat) (d : Int), sumZ (fun i => G (d - i)) n = sumZ (fun i => G (d - n + 1 + i)) n
  | 0, _ => rfl
  | n + 1, d => by
    rw [sumZ_first (fun i => G (d - ((n + 1 : Nat) : Int) + 1 + i)) n]
    simp only [sumZ]
    rw [sumZ_rev0 G n d]
    have e : ∀ i : Int, G (d - ((n + 1 : Nat) : Int) + 1 + (i + 1)) = G (d - n + 1 + i) := fun i => by congr 1; omega
    rw [sumZ_congr e n, show d - ((n + 1 : Nat) : Int) + 1 + 0 = d - n from by omega]; omega
theorem sumZ_rev (n : Nat) (G : Int → Int) (hp : ∀ i, G (i + n) = G i) (d : Int) : sumZ (fun i => G (d - i)) n = sumZ G n := by
  rw [sumZ_rev0 G n d, ← sumZ_shift n G hp (d - n + 1)]
  exact sumZ_congr (fun i => by congr 1; omega) n
def crossO (a b : Spot) : Int := a.1 * b.2 - a.2 * b.1
theorem mul_bd3 {x y : Int} (h0 : -1048576 ≤ x) (h1 : x ≤ 1048576) (h2 : -1048576 ≤ y) (h3 : y ≤ 1048576) : -1099511627776 ≤ x * y ∧ x * y ≤ 1099511627776 := by
  rcases Int.le_total 0 x with h | h
  · have a1 := Int.mul_le_mul_of_nonneg_left h3 h
    have a2 := Int.mul_le_mul_of_nonneg_left h2 h
    omega
  · have a1 := Int.mul_le_mul_of_nonpos_left h h3
    have a2 := Int.mul_le_mul_of_nonpos_left h h2
    omega
theorem crossO_bd {a b : Spot} (ha : inB a) (hb : inB b) : -2199023255552 ≤ crossO a b ∧ crossO a b ≤ 2199023255552 := by
  obtain ⟨a1, a2, a3, a4⟩ := ha; obtain ⟨b1, b2, b3, b4⟩ := hb
  have e1 := mul_bd3 a1 a2 b3 b4
  have e2 := mul_bd3 a3 a4 b1 b2
  unfold crossO; omega
theorem areaTo_eq {l : List Spot} (hB : AllB l) (h40 : l.length ≤ 40) : ∀ k, k ≤ l.length → areaTo l k = sumZ (fun i => crossO (cy l i) (cy l (i + 1))) k ∧ -(k * 2199023255552 : Int) ≤ areaTo l k ∧ areaTo l k ≤ k * 2199023255552
  | 0, _ => by simp [areaTo, sumZ]
  | k + 1, h => by
    obtain ⟨ih, b1, b2⟩ := areaTo_eq hB h40 k (by omega)
    have hl : 0 < l.length := by omega
    have ha := hB k (by omega)
    have hb := hB ((k + 1) % l.length) (Nat.mod_lt _ hl)
    have hbd := crossO_bd ha hb
    have e1 : cy l (k : Int) = gS l k := cy_nat (by omega)
    have e2 : cy l ((k : Int) + 1) = gS l ((k + 1) % l.length) := by
      have := cy_modn hl (k + 1)
      rw [← this]; congr 1
    have hx : wrap64 (wrap64 ((gS l k).1 * (gS l ((k + 1) % l.length)).2) - wrap64 ((gS l k).2 * (gS l ((k + 1) % l.length)).1)) = crossO (gS l k) (gS l ((k + 1) % l.length)) := by
      obtain ⟨a1, a2, a3, a4⟩ := ha; obtain ⟨c1, c2, c3, c4⟩ := hb
      have m1 := mul_bd3 a1 a2 c3 c4
      have m2 := mul_bd3 a3 a4 c1 c2
      rw [w64 (x := (gS l k).1 * (gS l ((k + 1) % l.length)).2) (by omega) (by omega), w64 (x := (gS l k).2 * (gS l ((k + 1) % l.length)).1) (by omega) (by omega)]
      exact w64 (by omega) (by omega)
    simp only [areaTo, sumZ]
    rw [hx, e1, e2, ← ih, w64 (by omega) (by omega)]
    refine ⟨rfl, by omega, by omega⟩
theorem apply_zero (f : Bool) (q : Int) : applyT f q (0, 0) = (0, 0) := by
  have hq : quart (0, 0) = (0, 0) := by unfold quart; rw [w64 (by omega) (by omega)]; rfl
  have hs : ∀ n, quarts n (0, 0) = (0, 0) := fun n => by
    induction n with
    | zero => rfl
    | succ n ih => rw [quarts_succ, ih, hq]
  have hf : flipS f (0, 0) = (0, 0) := by unfold flipS; split
                                          · rw [w64 (by omega) (by omega)]; rfl
                                          · rfl
  unfold applyT; rw [hf, hs]
theorem crossO_turn (f : Bool) (q : Int) {a b : Spot} (ha : inB a) (hb : inB b) : crossO (applyT f q a) (applyT f q b) = sgn f * crossO a b := by
  have h := (pres_apply f q).cr (0, 0) a b ⟨by decide, by decide, by decide, by decide⟩ ha hb
  rw [apply_zero] at h
  unfold crossX at h
  simp only [Int.sub_zero] at h
  exact h
theorem area_turn {es : List Edge} (f : Bool) (q : Int) (h : Joined es) (hB : AllB (verts es)) (h40 : (verts es).length ≤ 40) : areaTo (verts (turnE f q es)) (verts (turnE f q es)).length = areaTo (verts es) (verts es).length := by
  have hN := verts_turn_len f q h.n0
  have hp := h.pos
  have hper : ∀ i : Int, crossO (cy (verts es) (i + (verts es).length)) (cy (verts es) (i + (verts es).length + 1)) = crossO (cy (verts es) i) (cy (verts es) (i + 1)) := fun i => by
    have e1 := cy_add (l := verts es) i 1
    have e2 := cy_add (l := verts es) (i + 1) 1
    rw [Int.one_mul] at e1 e2
    rw [e1, show i + (verts es).length + 1 = i + 1 + (verts es).length from by omega, e2]
  have hb : ∀ i, inB (cy (verts es) i) := fun i => hB.cy hp i
  cases f
  · have r : ∀ i, cy (verts (turnE false q es)) i = applyT false q (cy (verts es) i) := fun i => by rw [verts_false, cy_map _ hp]
    have hB' : AllB (verts (turnE false q es)) := fun k hk => by rw [← cy_nat hk, r]; exact (pres_apply _ q).b _ (hb _)
    rw [(areaTo_eq hB' (by rw [hN]; exact h40) _ (Nat.le_refl _)).1, (areaTo_eq hB h40 _ (Nat.le_refl _)).1, hN]
    refine sumZ_congr (fun i => ?_) _
    rw [r, r, crossO_turn _ _ (hb _) (hb _)]
    simp [sgn]
  · have r := h.turn q
    have hB' : AllB (verts (turnE true q es)) := fun k hk => by rw [← cy_nat hk, r]; exact (pres_apply _ q).b _ (hb _)
    rw [(areaTo_eq hB' (by rw [hN]; exact h40) _ (Nat.le_refl _)).1, (areaTo_eq hB h40 _ (Nat.le_refl _)).1, hN, ← sumZ_rev _ (fun i => crossO (cy (verts es) i) (cy (verts es) (i + 1))) hper ((((gE es 0).2.length - 1 : Nat) : Int) - 1)]
    refine sumZ_congr (fun i => ?_) _
    rw [r, r, crossO_turn _ _ (hb _) (hb _)]
    rw [show (((gE es 0).2.length - 1 : Nat) : Int) - 1 - i + 1 = (((gE es 0).2.length - 1 : Nat) : Int) - i from by omega, show (((gE es 0).2.length - 1 : Nat) : Int) - (i + 1) = (((gE es 0).2.length - 1 : Nat) : Int) - 1 - i from by omega]
    simp only [sgn, if_true]
    unfold crossO
    rw [Int.mul_comm (cy (verts es) (((gE es 0).2.length - 1 : Nat) - i)).1, Int.mul_comm (cy (verts es) (((gE es 0).2.length - 1 : Nat) - i)).2]
    omega
theorem areaAt_turn (f : Bool) (q : Int) {es : List Edge} {cs : List Spot} {m : Int} (h : GOk es cs m) : areaAt (turnE f q es) (turnC f q es.length cs) m = areaAt es cs m := by
  unfold areaAt
  rw [gradedE_turn' f q h]
  have hk := (ocheck_iff _).1 h.ok'
  obtain ⟨J, B⟩ := ocheck_joined hk.l2 hk.lc hk.jn
  have hp := hk.pc
  have hp' := (pcheck_turn f q J B).2 hp
  unfold area2
  rw [if_neg (by rw [hp']; decide), if_neg (by rw [hp]; decide), area_turn f q J B ((pcheck_iff _).1 hp).2.1]
theorem areasE_turn (f : Bool) (q : Int) {es : List Edge} {cs : List Spot} (ms : List Int) (hw : WfE es) (hwc : WfL cs) : areasE (turnE f q es) (turnC f q es.length cs) ms = 0 ↔ areasE es cs ms = 0 := by
  unfold areasE
  rw [firstE_zero, firstE_zero]
  exact ⟨fun h i hi => (gradedR_turn f q hw hwc).1 (h i hi), fun h i hi => (gradedR_turn f q hw hwc).2 (h i hi)⟩
theorem areas_turn (f : Bool) (q : Int) {es : List Edge} {cs : List Spot} {ms : List Int} (h : areasE es cs ms = 0) : ms.map (areaAt (turnE f q es) (turnC f q es.length cs)) = ms.map (areaAt es cs) := by
  unfold areasE at h
  rw [firstE_zero] at h
  refine List.map_congr_left fun m hm => ?_
  obtain ⟨i, hi, rfl⟩ := List.getElem_of_mem hm
  have := h i hi
  rw [gI_eq hi] at this
  exact areaAt_turn f q ((gradedR_iff _ _ _).1 this)
end Go.Proofs.Ytpmfikkcidgoeaa
