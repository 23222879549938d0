/- Plain: a closed row of spots as a function on all integers; simple polygons under shifts, reversals and maps; areas. -/
import Derived.Test.YtkigmpholnfkbaaGreatKGraded
import Derived.Test.YtkigmpholnfkbaaGreatKSeg
import Derived.Test.YtkigmpholnfkbaaGreatKTurnD
/- Plain laws on grading: rounding, the multiple 0, corners, grading back, equal shifts. No program in sight. -/
namespace Go.Proofs.YtkigmpholnfkbaaGreat
open Go.RowKit
theorem rnd_zero (s : Int) (hs : 1 ≤ s) : rnd 0 s = 0 := by
  unfold rnd; rw [if_neg (by omega)]
  exact Int.ediv_eq_zero_of_lt (by omega) (by omega)
theorem half_div (x s : Int) (hs : 1 ≤ s) : (2 * (s * x) + s) / (2 * s) = x := by
  rw [show 2 * (s * x) + s = s + (2 * s) * x from by rw [Int.mul_assoc]; omega, Int.add_mul_ediv_left _ _ (by omega), Int.ediv_eq_zero_of_lt (by omega) (by omega)]; omega
theorem rnd_mul (x s : Int) (hs : 1 ≤ s) : rnd (s * x) s = x := by
  unfold rnd
  split
  · rw [← Int.mul_neg, half_div _ _ hs]; omega
  · exact half_div _ _ hs
theorem rnd_neg (a s : Int) (hs : 1 ≤ s) : rnd (-a) s = - rnd a s := by
  rcases Int.lt_trichotomy a 0 with h | h | h
  · unfold rnd; rw [if_neg (by omega), if_pos h]; omega
  · subst h; simp [rnd_zero s hs]
  · unfold rnd; rw [if_pos (by omega), if_neg (by omega)]; simp
theorem rnd_bd (a s B : Int) (hs : 1 ≤ s) (h0 : -B * s ≤ a) (h1 : a ≤ B * s) : -B ≤ rnd a s ∧ rnd a s ≤ B := by
  have key : ∀ x : Int, 0 ≤ x → x ≤ B * s → 0 ≤ (2 * x + s) / (2 * s) ∧ (2 * x + s) / (2 * s) ≤ B := fun x hx hx' => by
    refine ⟨Int.ediv_nonneg (by omega) (by omega), ?_⟩
    have : (2 * x + s) / (2 * s) ≤ (2 * (s * B) + s) / (2 * s) := Int.ediv_le_ediv (by omega) (by rw [Int.mul_comm s B]; omega)
    rwa [half_div _ _ hs] at this
  have hB : 0 ≤ B := by
    rcases Int.lt_or_le B 0 with h | h
    · have : B * s < 0 := Int.mul_neg_of_neg_of_pos h (by omega)
      have e : -B * s = -(B * s) := Int.neg_mul _ _
      omega
    · exact h
  rw [Int.neg_mul] at h0
  unfold rnd
  split
  · have := key (-a) (by omega) (by omega)
    omega
  · have := key a (by omega) h1
    omega
theorem w64 {x : Int} (h0 : -9223372036854775808 ≤ x) (h1 : x ≤ 9223372036854775807) : wrap64 x = x := IntWalk.wrap64_in _ ⟨h0, by omega⟩
theorem list_ext_gE {a b : List Edge} (hl : a.length = b.length) (h : ∀ p, p < a.length → gE a p = gE b p) : a = b := by
  apply List.ext_getElem hl
  intro i h1 h2
  rw [← gE_eq h1, ← gE_eq h2]; exact h i h1
theorem list_ext_gS' {a b : List Spot} (hl : a.length = b.length) (h : ∀ p, p < a.length → gS a p = gS b p) : a = b := by
  apply List.ext_getElem hl
  intro i h1 h2
  rw [← gS_eq h1, ← gS_eq h2]; exact h i h1
theorem gradedE_get {es : List Edge} {cs : List Spot} {m : Int} {i : Nat} (h : i < es.length) : gE (gradedE es cs m) i = gradedAt es cs m i := by
  rw [gE_eq (by rw [gradedE_len]; exact h)]; simp [gradedE]
theorem movedS_g {l : List Spot} {a b : Spot} {k : Nat} (h : k < l.length) : gS (movedS l a b) k = mvS l a b k := by
  rw [gS_eq (by rw [movedS_len]; exact h), movedS_get h]
/- what it means that a piece can be graded -/
structure GOk (es : List Edge) (cs : List Spot) (m : Int) : Prop where
  m0 : -100 ≤ m
  m1 : m ≤ 100
  len : cs.length = es.length
  corn : allB (cornF cs) cs.length = true
  ok : ocheck es = 0
  ok' : ocheck (gradedE es cs m) = 0
theorem gradedR_iff (es : List Edge) (cs : List Spot) (m : Int) : gradedR es cs m = 0 ↔ GOk es cs m := by
  unfold gradedR
  constructor
  · intro h
    split at h
    · cases h
    split at h
    · cases h
    split at h
    · cases h
    split at h
    · rename_i h1; exact absurd h h1
    · rename_i h1 h2 h3 h4
      simp only [Bool.not_eq_false, decide_eq_true_eq] at h1
      exact ⟨h1.1, h1.2, by simpa using h2, by simpa using h3, by simpa using h4, h⟩
  · rintro ⟨h1, h2, h3, h4, h5, h6⟩
    rw [if_neg (by simp; omega), if_neg (by simpa using h3), if_neg (by rw [h4]; decide), if_neg (by simpa using h5)]
    exact h6
theorem ocheck_edge {es : List Edge} (h : ocheck es = 0) {i : Nat} (hi : i < es.length) : edgeE es i = 0 := (firstE_zero _ _).1 (ocheck_ok h).2.2 i hi
theorem ocheck_line {es : List Edge} (h : ocheck es = 0) {i : Nat} (hi : i < es.length) : lcheck (gE es i).2 = 0 := edge_ok (ocheck_edge h hi)
theorem cornF_bd {cs : List Spot} (h : allB (cornF cs) cs.length = true) {j : Nat} (hj : j < cs.length) : -1000 ≤ (gS cs j).1 ∧ (gS cs j).1 ≤ 1000 ∧ -1000 ≤ (gS cs j).2 ∧ (gS cs j).2 ≤ 1000 := by
  have h1 := (allB_iff _ _).1 h j hj
  simp only [cornF, Bool.and_eq_true, decide_eq_true_eq] at h1
  omega
theorem mul_100 {m y : Int} (h0 : -100 ≤ m) (h1 : m ≤ 100) (hy : -1000 ≤ y) (hy' : y ≤ 1000) : -100000 ≤ m * y ∧ m * y ≤ 100000 := by
  rcases Int.le_total 0 m with h | h
  · have a1 := Int.mul_le_mul_of_nonneg_left hy' h
    have a2 := Int.mul_le_mul_of_nonneg_left hy h
    omega
  · have a1 := Int.mul_le_mul_of_nonpos_left h hy'
    have a2 := Int.mul_le_mul_of_nonpos_left h hy
    omega
theorem mulS_eq {m : Int} {s : Spot} (h0 : -100 ≤ m) (h1 : m ≤ 100) (h : -1000 ≤ s.1 ∧ s.1 ≤ 1000 ∧ -1000 ≤ s.2 ∧ s.2 ≤ 1000) : mulS m s = (m * s.1, m * s.2) := by
  have a := mul_100 h0 h1 h.1 h.2.1
  have b := mul_100 h0 h1 h.2.2.1 h.2.2.2
  unfold mulS; rw [w64 (by omega) (by omega), w64 (by omega) (by omega)]
/- both ends moved alike -/
theorem mvS_same {l : List Spot} {a : Spot} {k : Nat} (h2 : 2 ≤ l.length) : mvS l a a k = (wrap64 ((gS l k).1 + a.1), wrap64 ((gS l k).2 + a.2)) := by
  have key : ∀ x v : Int, mvx x x v ((l.length : Int) - 1) k = wrap64 (v + x) := fun x v => by
    unfold mvx
    rw [show (((l.length : Int) - 1) - k) * x + k * x = ((l.length : Int) - 1) * x from by rw [← Int.add_mul]; congr 1; omega, rnd_mul _ _ (by omega)]
  unfold mvS; rw [key, key]
theorem movedS_zero {l : List Spot} (h : lcheck l = 0) : movedS l (0, 0) (0, 0) = l := by
  obtain ⟨h2, _, hin⟩ := lcheck_zero h
  refine list_ext_gS' (movedS_len _ _ _) fun k hk => ?_
  rw [movedS_len] at hk
  rw [movedS_g hk, mvS_same h2]
  obtain ⟨p1, p2, p3, p4⟩ := hin k hk
  simp only [Int.add_zero]
  rw [w64 (by omega) (by omega), w64 (by omega) (by omega)]
theorem gradedE_zero {es : List Edge} {cs : List Spot} (h : ocheck es = 0) : gradedE es cs 0 = es := by
  refine list_ext_gE (gradedE_len _ _ _) fun i hi => ?_
  rw [gradedE_len] at hi
  rw [gradedE_get hi]
  unfold gradedAt
  have e : ∀ s : Spot, mulS 0 s = (0, 0) := fun s => by
    unfold mulS; simp only [Int.zero_mul]; rw [w64 (by omega) (by omega)]
  rw [e, e, movedS_zero (ocheck_line h hi)]
theorem graded_zero {es : List Edge} {cs : List Spot} {m : Int} (h : GOk es cs m) : gradedR es cs 0 = 0 ∧ gradedE es cs 0 = es := by
  have e := gradedE_zero (cs := cs) h.ok
  exact ⟨(gradedR_iff _ _ _).2 ⟨by omega, by omega, h.len, h.corn, h.ok, by rw [e]; exact h.ok⟩, e⟩
theorem graded_first {es : List Edge} {cs : List Spot} {m : Int} (h : GOk es cs m) {i : Nat} (hi : i < es.length) :
    (gE (gradedE es cs m) i).1 = (gE es i).1 ∧ (gE es i).2.length ≠ 0 ∧ (gE (gradedE es cs m) i).2.length = (gE es i).2.length ∧
    wrap64 ((gS (gE (gradedE es cs m) i).2 0).1 - (gS (gE es i).2 0).1) = wrap64 (m * (gS cs i).1) ∧ wrap64 ((gS (gE (gradedE es cs m) i).2 0).2 - (gS (gE es i).2 0).2) = wrap64 (m * (gS cs i).2) := by
  obtain ⟨h2, h40, hin⟩ := lcheck_zero (ocheck_line h.ok hi)
  have hc := cornF_bd h.corn (j := i) (by rw [h.len]; exact hi)
  have ha := mul_100 h.m0 h.m1 hc.1 hc.2.1
  have hb := mul_100 h.m0 h.m1 hc.2.2.1 hc.2.2.2
  rw [gradedE_get hi]
  unfold gradedAt
  simp only
  rw [Nat.mod_eq_of_lt (by rw [h.len]; exact hi)]
  refine ⟨trivial, by omega, movedS_len _ _ _, ?_⟩
  rw [movedS_g (by omega)]
  obtain ⟨p1, p2, p3, p4⟩ := hin 0 (by omega)
  have key : ∀ x y v : Int, -1048576 ≤ v → v ≤ 1048576 → -100000 ≤ x → x ≤ 100000 → mvx x y v (((gE es i).2.length : Int) - 1) ((0 : Nat) : Int) = v + x := fun x y v hv hv' hx hx' => by
    unfold mvx
    simp only [Int.natCast_zero, Int.sub_zero, Int.zero_mul, Int.add_zero]
    rw [rnd_mul _ _ (by omega), w64 (by omega) (by omega)]
  rw [mulS_eq h.m0 h.m1 hc]
  unfold mvS
  simp only
  rw [key _ _ _ p1 p2 ha.1 ha.2, key _ _ _ p3 p4 hb.1 hb.2]
  constructor <;> congr 1 <;> omega
/- grading back -/
theorem movedS_back {l : List Spot} {a b : Spot} (h : lcheck l = 0) (hl : l.length = 2) (ha : -100000 ≤ a.1 ∧ a.1 ≤ 100000 ∧ -100000 ≤ a.2 ∧ a.2 ≤ 100000) (hb : -100000 ≤ b.1 ∧ b.1 ≤ 100000 ∧ -100000 ≤ b.2 ∧ b.2 ≤ 100000) :
    movedS (movedS l a b) (-a.1, -a.2) (-b.1, -b.2) = l := by
  obtain ⟨_, _, hin⟩ := lcheck_zero h
  have key : ∀ (x y v : Int) (k : Nat), -1048576 ≤ v → v ≤ 1048576 → -100000 ≤ x → x ≤ 100000 → -100000 ≤ y → y ≤ 100000 → k < 2 → mvx (-x) (-y) (mvx x y v 1 k) 1 k = v := fun x y v k hv hv' hx hx' hy hy' hk => by
    unfold mvx
    have e : ∀ z : Int, rnd z 1 = z := fun z => by have := rnd_mul z 1 (by omega); simpa using this
    rw [e, e]
    obtain rfl | rfl : k = 0 ∨ k = 1 := by omega
    · simp; rw [w64 (x := v + x) (by omega) (by omega), w64 (by omega) (by omega)]; omega
    · simp; rw [w64 (x := v + y) (by omega) (by omega), w64 (by omega) (by omega)]; omega
  refine list_ext_gS' (by rw [movedS_len, movedS_len]) fun k hk => ?_
  rw [movedS_len, movedS_len] at hk
  rw [movedS_g (by rw [movedS_len]; exact hk)]
  unfold mvS
  rw [movedS_len, movedS_g hk]
  unfold mvS
  obtain ⟨p1, p2, p3, p4⟩ := hin k hk
  simp only [hl]
  rw [show (((2 : Nat) : Int) - 1) = 1 from rfl, key _ _ _ _ p1 p2 ha.1 ha.2.1 hb.1 hb.2.1 (by omega), key _ _ _ _ p3 p4 ha.2.2.1 ha.2.2.2 hb.2.2.1 hb.2.2.2 (by omega)]
theorem graded_back {es : List Edge} {cs : List Spot} {m : Int} (h : GOk es cs m) (h2 : ∀ i, i < es.length → (gE es i).2.length = 2) :
    gradedE (gradedE es cs m) cs (-m) = es := by
  refine list_ext_gE (by rw [gradedE_len, gradedE_len]) fun i hi => ?_
  rw [gradedE_len, gradedE_len] at hi
  rw [gradedE_get (by rw [gradedE_len]; exact hi)]
  unfold gradedAt
  rw [gradedE_get hi]
  unfold gradedAt
  simp only
  have hn : 0 < cs.length := by have := h.len; omega
  have hc := cornF_bd h.corn (Nat.mod_lt i hn)
  have hd := cornF_bd h.corn (Nat.mod_lt (i + 1) hn)
  rw [mulS_eq h.m0 h.m1 hc, mulS_eq h.m0 h.m1 hd, mulS_eq (by have := h.m1; omega) (by have := h.m0; omega) hc, mulS_eq (by have := h.m1; omega) (by have := h.m0; omega) hd]
  have a1 := mul_100 h.m0 h.m1 hc.1 hc.2.1
  have a2 := mul_100 h.m0 h.m1 hc.2.2.1 hc.2.2.2
  have b1 := mul_100 h.m0 h.m1 hd.1 hd.2.1
  have b2 := mul_100 h.m0 h.m1 hd.2.2.1 hd.2.2.2
  have := movedS_back (a := (m * (gS cs (i % cs.length)).1, m * (gS cs (i % cs.length)).2)) (b := (m * (gS cs ((i + 1) % cs.length)).1, m * (gS cs ((i + 1) % cs.length)).2)) (ocheck_line h.ok hi) (h2 i hi) ⟨a1.1, a1.2, a2.1, a2.2⟩ ⟨b1.1, b1.2, b2.1, b2.2⟩
  simp only [← Int.neg_mul] at this
  rw [this]
theorem graded_back_ok {es : List Edge} {cs : List Spot} {m : Int} (h : GOk es cs m) (h2 : ∀ i, i < es.length → (gE es i).2.length = 2) : gradedR (gradedE es cs m) cs (-m) = 0 := by
  refine (gradedR_iff _ _ _).2 ⟨by have := h.m1; omega, by have := h.m0; omega, by rw [gradedE_len]; exact h.len, h.corn, h.ok', ?_⟩
  rw [graded_back h h2]; exact h.ok
/- the multiple and the shifts negated -/
def negS (s : Spot) : Spot := (wrap64 (-s.1), wrap64 (-s.2))
theorem gS_map {f : Spot → Spot} {l : List Spot} {k : Nat} (h : k < l.length) : gS (l.map f) k = f (gS l k) := by
  rw [gS_eq (by simpa using h), gS_eq h]; simp
theorem negS_eq {s : Spot} (h : -1000 ≤ s.1 ∧ s.1 ≤ 1000 ∧ -1000 ≤ s.2 ∧ s.2 ≤ 1000) : negS s = (-s.1, -s.2) := by
  unfold negS; rw [w64 (by omega) (by omega), w64 (by omega) (by omega)]
theorem graded_neg {es : List Edge} {cs : List Spot} {m : Int} (h : GOk es cs m) : gradedR es (cs.map negS) (-m) = 0 ∧ gradedE es (cs.map negS) (-m) = gradedE es cs m := by
  have e : gradedE es (cs.map negS) (-m) = gradedE es cs m := by
    refine list_ext_gE (by rw [gradedE_len, gradedE_len]) fun i hi => ?_
    rw [gradedE_len] at hi
    rw [gradedE_get hi, gradedE_get hi]
    unfold gradedAt
    have hn : 0 < cs.length := by have := h.len; omega
    have key : ∀ j, j < cs.length → mulS (-m) (gS (cs.map negS) j) = mulS m (gS cs j) := fun j hj => by
      rw [gS_map hj, negS_eq (cornF_bd h.corn hj)]
      unfold mulS; simp [Int.neg_mul_neg]
    rw [List.length_map, key _ (Nat.mod_lt _ hn), key _ (Nat.mod_lt _ hn)]
  refine ⟨(gradedR_iff _ _ _).2 ⟨by have := h.m1; omega, by have := h.m0; omega, by rw [List.length_map]; exact h.len, ?_, h.ok, by rw [e]; exact h.ok'⟩, e⟩
  rw [allB_iff]
  intro i hi
  rw [List.length_map] at hi
  have hc := cornF_bd h.corn hi
  unfold cornF
  rw [gS_map hi, negS_eq hc]
  simp; omega
/- equal shifts -/
def moveS (d s : Spot) : Spot := (wrap64 (s.1 + d.1), wrap64 (s.2 + d.2))
theorem graded_equal {es : List Edge} {cs : List Spot} {d : Spot} {m : Int} (h : GOk es cs m) (hd : ∀ j, j < cs.length → gS cs j = d) {i : Nat} (hi : i < es.length) :
    (gE (gradedE es cs m) i).2 = (gE es i).2.map (moveS (mulS m d)) := by
  have hn : 0 < cs.length := by have := h.len; omega
  rw [gradedE_get hi]
  unfold gradedAt
  rw [hd _ (Nat.mod_lt _ hn), hd _ (Nat.mod_lt _ hn)]
  obtain ⟨h2, _, _⟩ := lcheck_zero (ocheck_line h.ok hi)
  refine list_ext_gS' (by rw [movedS_len, List.length_map]) fun k hk => ?_
  rw [movedS_len] at hk
  rw [movedS_g hk, gS_map hk, mvS_same h2]; rfl
end Go.Proofs.YtkigmpholnfkbaaGreat
/- Plain geometry: the tests on polygons under a quarter turn, a mirror image, a reversal. No program in sight. -/
namespace Go.Proofs.YtkigmpholnfkbaaGreat
open Go.RowKit
/- exact forms within the grid -/
def crossX (a b c : Spot) : Int := (b.1 - a.1) * (c.2 - a.2) - (b.2 - a.2) * (c.1 - a.1)
def dotX (a b c : Spot) : Int := (a.1 - b.1) * (c.1 - b.1) + (a.2 - b.2) * (c.2 - b.2)
theorem mul_bd2 {x y : Int} (h0 : -2097152 ≤ x) (h1 : x ≤ 2097152) (h2 : -2097152 ≤ y) (h3 : y ≤ 2097152) : -4398046511104 ≤ x * y ∧ x * y ≤ 4398046511104 := by
  rcases Int.le_total 0 x with h | h
  · have a1 := Int.mul_le_mul_of_nonneg_left h3 h
    have a2 := Int.mul_le_mul_of_nonneg_left h2 h
    omega
  · have a1 := Int.mul_le_mul_of_nonpos_left h h3
    have a2 := Int.mul_le_mul_of_nonpos_left h h2
    omega
theorem cross_eq {a b c : Spot} (ha : inB a) (hb : inB b) (hc : inB c) : cross a b c = crossX a b c := by
  obtain ⟨a1, a2, a3, a4⟩ := ha; obtain ⟨b1, b2, b3, b4⟩ := hb; obtain ⟨c1, c2, c3, c4⟩ := hc
  unfold cross crossX
  have e1 := mul_bd2 (x := b.1 - a.1) (y := c.2 - a.2) (by omega) (by omega) (by omega) (by omega)
  have e2 := mul_bd2 (x := b.2 - a.2) (y := c.1 - a.1) (by omega) (by omega) (by omega) (by omega)
  rw [w64 (x := b.1 - a.1) (by omega) (by omega), w64 (x := c.2 - a.2) (by omega) (by omega), w64 (x := b.2 - a.2) (by omega) (by omega), w64 (x := c.1 - a.1) (by omega) (by omega),
    w64 (x := (b.1 - a.1) * (c.2 - a.2)) (by omega) (by omega), w64 (x := (b.2 - a.2) * (c.1 - a.1)) (by omega) (by omega), w64 (by omega) (by omega)]
theorem fold_eq {a b c : Spot} (ha : inB a) (hb : inB b) (hc : inB c) : foldB a b c = (crossX a b c == 0 && decide (0 < dotX a b c)) := by
  unfold foldB
  rw [cross_eq ha hb hc]
  obtain ⟨a1, a2, a3, a4⟩ := ha; obtain ⟨b1, b2, b3, b4⟩ := hb; obtain ⟨c1, c2, c3, c4⟩ := hc
  have e1 := mul_bd2 (x := a.1 - b.1) (y := c.1 - b.1) (by omega) (by omega) (by omega) (by omega)
  have e2 := mul_bd2 (x := a.2 - b.2) (y := c.2 - b.2) (by omega) (by omega) (by omega) (by omega)
  rw [w64 (x := a.1 - b.1) (by omega) (by omega), w64 (x := c.1 - b.1) (by omega) (by omega), w64 (x := a.2 - b.2) (by omega) (by omega), w64 (x := c.2 - b.2) (by omega) (by omega),
    w64 (x := (a.1 - b.1) * (c.1 - b.1)) (by omega) (by omega), w64 (x := (a.2 - b.2) * (c.2 - b.2)) (by omega) (by omega), w64 (by omega) (by omega)]
  rfl
def boxX (a b p : Spot) : Prop := min a.1 b.1 ≤ p.1 ∧ p.1 ≤ max a.1 b.1 ∧ min a.2 b.2 ≤ p.2 ∧ p.2 ≤ max a.2 b.2
def onX (a b p : Spot) : Prop := crossX a b p = 0 ∧ boxX a b p
theorem on_iff {a b p : Spot} (ha : inB a) (hb : inB b) (hp : inB p) : onB a b p = true ↔ onX a b p := by
  unfold onB onX boxX
  rw [cross_eq ha hb hp]
  simp
def oppX (x y : Int) : Prop := (x < 0 ∧ 0 < y) ∨ (0 < x ∧ y < 0)
theorem part_iff {a b c d : Spot} (ha : inB a) (hb : inB b) (hc : inB c) (hd : inB d) : partB a b c d = true ↔ oppX (crossX a b c) (crossX a b d) := by
  unfold partB oppX
  rw [cross_eq ha hb hc, cross_eq ha hb hd]
  generalize crossX a b c = x
  generalize crossX a b d = y
  simp only [decide_eq_true_eq]
  have cn : ∀ z : Int, z < 0 → cmpI z 0 = -1 := fun z h => by unfold cmpI; rw [if_pos h]
  have cz : cmpI 0 0 = 0 := by decide
  have cp : ∀ z : Int, 0 < z → cmpI z 0 = 1 := fun z h => by unfold cmpI; rw [if_neg (by omega), if_pos h]
  rcases Int.lt_trichotomy x 0 with h | h | h <;> rcases Int.lt_trichotomy y 0 with h' | h' | h'
  · rw [cn x h, cn y h', w64 (by omega) (by omega)]; omega
  · subst h'; rw [cn x h, cz, w64 (by omega) (by omega)]; omega
  · rw [cn x h, cp y h', w64 (by omega) (by omega)]; omega
  · subst h; rw [cz, cn y h', w64 (by omega) (by omega)]; omega
  · subst h; subst h'; rw [cz, w64 (by omega) (by omega)]; omega
  · subst h; rw [cz, cp y h', w64 (by omega) (by omega)]; omega
  · rw [cp x h, cn y h', w64 (by omega) (by omega)]; omega
  · subst h'; rw [cp x h, cz, w64 (by omega) (by omega)]; omega
  · rw [cp x h, cp y h', w64 (by omega) (by omega)]; omega
/- symmetries of the tests -/
theorem crossX_swap (a b c : Spot) : crossX b a c = - crossX a b c := by
  unfold crossX; simp only [Int.sub_mul, Int.mul_sub]; rw [Int.mul_comm b.1 c.2, Int.mul_comm b.1 a.2, Int.mul_comm a.1 c.2, Int.mul_comm a.1 b.2, Int.mul_comm b.1 b.2, Int.mul_comm a.1 a.2, Int.mul_comm b.2 c.1, Int.mul_comm a.2 c.1]; omega
theorem crossX_rev (a b c : Spot) : crossX c b a = - crossX a b c := by
  unfold crossX; simp only [Int.sub_mul, Int.mul_sub]; rw [Int.mul_comm b.1 a.2, Int.mul_comm b.1 c.2, Int.mul_comm c.1 a.2, Int.mul_comm c.1 c.2, Int.mul_comm b.2 a.1, Int.mul_comm b.2 c.1, Int.mul_comm c.2 a.1, Int.mul_comm a.1 a.2]; omega
theorem dotX_rev (a b c : Spot) : dotX c b a = dotX a b c := by unfold dotX; rw [Int.mul_comm (c.1 - b.1), Int.mul_comm (c.2 - b.2)]
theorem onX_swap (a b p : Spot) : onX b a p ↔ onX a b p := by
  unfold onX boxX; rw [crossX_swap]; omega
theorem oppX_neg (x y : Int) : oppX (-x) (-y) ↔ oppX x y := by unfold oppX; omega
theorem oppX_comm (x y : Int) : oppX y x ↔ oppX x y := by unfold oppX; omega
def meetX (a b c d : Spot) : Prop := onX a b c ∨ onX a b d ∨ onX c d a ∨ onX c d b ∨ (oppX (crossX a b c) (crossX a b d) ∧ oppX (crossX c d a) (crossX c d b))
theorem meet_iff {a b c d : Spot} (ha : inB a) (hb : inB b) (hc : inB c) (hd : inB d) : meetB a b c d = true ↔ meetX a b c d := by
  unfold meetB meetX
  simp only [Bool.or_eq_true, Bool.and_eq_true, on_iff ha hb hc, on_iff ha hb hd, on_iff hc hd ha, on_iff hc hd hb, part_iff ha hb hc hd, part_iff hc hd ha hb]
theorem meetX_comm (a b c d : Spot) : meetX c d a b ↔ meetX a b c d := by
  unfold meetX
  constructor
  · rintro (h | h | h | h | ⟨h, h'⟩)
    · exact .inr (.inr (.inl h))
    · exact .inr (.inr (.inr (.inl h)))
    · exact .inl h
    · exact .inr (.inl h)
    · exact .inr (.inr (.inr (.inr ⟨h', h⟩)))
  · rintro (h | h | h | h | ⟨h, h'⟩)
    · exact .inr (.inr (.inl h))
    · exact .inr (.inr (.inr (.inl h)))
    · exact .inl h
    · exact .inr (.inl h)
    · exact .inr (.inr (.inr (.inr ⟨h', h⟩)))
theorem meetX_rev (a b c d : Spot) : meetX b a d c ↔ meetX a b c d := by
  unfold meetX
  rw [onX_swap a b d, onX_swap a b c, onX_swap c d b, onX_swap c d a, crossX_swap a b d, crossX_swap a b c, crossX_swap c d b, crossX_swap c d a, oppX_neg, oppX_neg, oppX_comm (crossX a b c), oppX_comm (crossX c d a)]
  constructor
  · rintro (h | h | h | h | h)
    · exact .inr (.inl h)
    · exact .inl h
    · exact .inr (.inr (.inr (.inl h)))
    · exact .inr (.inr (.inl h))
    · exact .inr (.inr (.inr (.inr h)))
  · rintro (h | h | h | h | h)
    · exact .inr (.inl h)
    · exact .inl h
    · exact .inr (.inr (.inr (.inl h)))
    · exact .inr (.inr (.inl h))
    · exact .inr (.inr (.inr (.inr h)))
/- what a map does that keeps all tests -/
structure Pres (T : Spot → Spot) (e : Int) : Prop where
  e1 : e = 1 ∨ e = -1
  b : ∀ s, inB s → inB (T s)
  inj : ∀ s t, T s = T t → inB s → inB t → s = t
  cr : ∀ a b c, inB a → inB b → inB c → crossX (T a) (T b) (T c) = e * crossX a b c
  dt : ∀ a b c, inB a → inB b → inB c → dotX (T a) (T b) (T c) = dotX a b c
  bx : ∀ a b p, inB a → inB b → inB p → (boxX (T a) (T b) (T p) ↔ boxX a b p)
theorem Pres.cr0 {T : Spot → Spot} {e : Int} (h : Pres T e) {a b c : Spot} (ha : inB a) (hb : inB b) (hc : inB c) : crossX (T a) (T b) (T c) = 0 ↔ crossX a b c = 0 := by
  rw [h.cr a b c ha hb hc]; rcases h.e1 with h | h <;> subst h <;> omega
theorem Pres.on {T : Spot → Spot} {e : Int} (h : Pres T e) {a b c : Spot} (ha : inB a) (hb : inB b) (hc : inB c) : onX (T a) (T b) (T c) ↔ onX a b c := by
  unfold onX; rw [h.cr0 ha hb hc, h.bx a b c ha hb hc]
theorem Pres.opp {T : Spot → Spot} {e : Int} (h : Pres T e) {a b c d : Spot} (ha : inB a) (hb : inB b) (hc : inB c) (hd : inB d) : oppX (crossX (T a) (T b) (T c)) (crossX (T a) (T b) (T d)) ↔ oppX (crossX a b c) (crossX a b d) := by
  rw [h.cr a b c ha hb hc, h.cr a b d ha hb hd]
  rcases h.e1 with h | h <;> subst h
  · simp
  · rw [Int.neg_one_mul, Int.neg_one_mul, oppX_neg]
theorem Pres.meet {T : Spot → Spot} {e : Int} (h : Pres T e) {a b c d : Spot} (ha : inB a) (hb : inB b) (hc : inB c) (hd : inB d) : meetB (T a) (T b) (T c) (T d) = meetB a b c d := by
  rw [Bool.eq_iff_iff, meet_iff (h.b a ha) (h.b b hb) (h.b c hc) (h.b d hd), meet_iff ha hb hc hd]
  unfold meetX
  rw [h.on ha hb hc, h.on ha hb hd, h.on hc hd ha, h.on hc hd hb, h.opp ha hb hc hd, h.opp hc hd ha hb]
theorem Pres.fold {T : Spot → Spot} {e : Int} (h : Pres T e) {a b c : Spot} (ha : inB a) (hb : inB b) (hc : inB c) : foldB (T a) (T b) (T c) = foldB a b c := by
  rw [fold_eq (h.b a ha) (h.b b hb) (h.b c hc), fold_eq ha hb hc, h.dt a b c ha hb hc]
  congr 1
  rw [Bool.eq_iff_iff]; simp [h.cr0 ha hb hc]
theorem meetB_comm {a b c d : Spot} (ha : inB a) (hb : inB b) (hc : inB c) (hd : inB d) : meetB c d a b = meetB a b c d := by
  rw [Bool.eq_iff_iff, meet_iff hc hd ha hb, meet_iff ha hb hc hd, meetX_comm]
theorem meetB_rev {a b c d : Spot} (ha : inB a) (hb : inB b) (hc : inB c) (hd : inB d) : meetB b a d c = meetB a b c d := by
  rw [Bool.eq_iff_iff, meet_iff hb ha hd hc, meet_iff ha hb hc hd, meetX_rev]
theorem foldB_rev {a b c : Spot} (ha : inB a) (hb : inB b) (hc : inB c) : foldB c b a = foldB a b c := by
  rw [fold_eq hc hb ha, fold_eq ha hb hc, dotX_rev, crossX_rev]
  congr 1
  rw [Bool.eq_iff_iff]; simp
theorem Pres.id : Pres (fun s => s) 1 := ⟨.inl rfl, fun _ h => h, fun _ _ h _ _ => h, fun _ _ _ _ _ _ => by simp, fun _ _ _ _ _ _ => rfl, fun _ _ _ _ _ _ => Iff.rfl⟩
theorem Pres.comp {T U : Spot → Spot} {e f : Int} (h : Pres T e) (k : Pres U f) : Pres (fun s => U (T s)) (f * e) where
  e1 := by rcases h.e1 with h | h <;> rcases k.e1 with k | k <;> subst h <;> subst k <;> simp
  b := fun s hs => k.b _ (h.b s hs)
  inj := fun s t he hs ht => h.inj s t (k.inj _ _ he (h.b s hs) (h.b t ht)) hs ht
  cr := fun a b c ha hb hc => by rw [k.cr _ _ _ (h.b a ha) (h.b b hb) (h.b c hc), h.cr a b c ha hb hc, Int.mul_assoc]
  dt := fun a b c ha hb hc => by rw [k.dt _ _ _ (h.b a ha) (h.b b hb) (h.b c hc), h.dt a b c ha hb hc]
  bx := fun a b c ha hb hc => (k.bx _ _ _ (h.b a ha) (h.b b hb) (h.b c hc)).trans (h.bx a b c ha hb hc)
theorem quart_eq {s : Spot} (h : inB s) : quart s = (-s.2, s.1) := by
  obtain ⟨h1, h2, h3, h4⟩ := h
  unfold quart; rw [w64 (by omega) (by omega)]
theorem flip_eq {s : Spot} (h : inB s) : flipS true s = (-s.1, s.2) := by
  obtain ⟨h1, h2, h3, h4⟩ := h
  unfold flipS; rw [if_pos rfl, w64 (by omega) (by omega)]
theorem pres_quart : Pres quart 1 where
  e1 := .inl rfl
  b := fun s h => by rw [quart_eq h]; obtain ⟨h1, h2, h3, h4⟩ := h; exact ⟨by simp only; omega, by simp only; omega, by simp only; omega, by simp only; omega⟩
  inj := fun s t he hs ht => by
    rw [quart_eq hs, quart_eq ht] at he
    injection he with e1 e2
    exact Prod.ext (by omega) (by omega)
  cr := fun a b c ha hb hc => by
    rw [quart_eq ha, quart_eq hb, quart_eq hc]; unfold crossX
    simp only [Int.one_mul]
    rw [show (-b.2 - -a.2) = -(b.2 - a.2) from by omega, show (-c.2 - -a.2) = -(c.2 - a.2) from by omega, Int.neg_mul, Int.mul_neg]; omega
  dt := fun a b c ha hb hc => by
    rw [quart_eq ha, quart_eq hb, quart_eq hc]; unfold dotX
    simp only
    rw [show (-a.2 - -b.2) = -(a.2 - b.2) from by omega, show (-c.2 - -b.2) = -(c.2 - b.2) from by omega, Int.neg_mul_neg]; omega
  bx := fun a b c ha hb hc => by
    rw [quart_eq ha, quart_eq hb, quart_eq hc]; unfold boxX
    simp only; omega
theorem pres_flip : Pres (flipS true) (-1) where
  e1 := .inr rfl
  b := fun s h => by rw [flip_eq h]; obtain ⟨h1, h2, h3, h4⟩ := h; exact ⟨by simp only; omega, by simp only; omega, by simp only; omega, by simp only; omega⟩
  inj := fun s t he hs ht => by
    rw [flip_eq hs, flip_eq ht] at he
    injection he with e1 e2
    exact Prod.ext (by omega) (by omega)
  cr := fun a b c ha hb hc => by
    rw [flip_eq ha, flip_eq hb, flip_eq hc]; unfold crossX
    simp only
    rw [show (-b.1 - -a.1) = -(b.1 - a.1) from by omega, show (-c.1 - -a.1) = -(c.1 - a.1) from by omega, Int.neg_mul, Int.mul_neg]; omega
  dt := fun a b c ha hb hc => by
    rw [flip_eq ha, flip_eq hb, flip_eq hc]; unfold dotX
    simp only
    rw [show (-a.1 - -b.1) = -(a.1 - b.1) from by omega, show (-c.1 - -b.1) = -(c.1 - b.1) from by omega, Int.neg_mul_neg]
  bx := fun a b c ha hb hc => by
    rw [flip_eq ha, flip_eq hb, flip_eq hc]; unfold boxX
    simp only; omega
def sgn (f : Bool) : Int := if f = true then -1 else 1
theorem pres_quarts : ∀ n, Pres (quarts n) 1
  | 0 => Pres.id
  | n + 1 => by have h := (pres_quarts n).comp pres_quart; rw [Int.mul_one] at h; exact h
theorem pres_apply (f : Bool) (q : Int) : Pres (applyT f q) (sgn f) := by
  cases f
  · have h := pres_quarts (q % 4).toNat
    exact h
  · have h := pres_flip.comp (pres_quarts (q % 4).toNat)
    rw [Int.one_mul] at h
    exact h
end Go.Proofs.YtkigmpholnfkbaaGreat
namespace Go.Proofs.YtkigmpholnfkbaaGreat
open Go.RowKit
/- the closed row: index modulo the length -/
def cy (l : List Spot) (i : Int) : Spot := gS l (i % l.length).toNat
theorem cy_nat {l : List Spot} {k : Nat} (h : k < l.length) : cy l k = gS l k := by
  unfold cy; rw [Int.emod_eq_of_lt (by omega) (by omega)]; rfl
theorem cy_mod {l : List Spot} {i j : Int} (h : i % l.length = j % l.length) : cy l i = cy l j := by unfold cy; rw [h]
theorem cy_of {l : List Spot} (hl : 0 < l.length) (i : Int) : ∃ k : Nat, k < l.length ∧ i % l.length = k ∧ cy l i = gS l k := by
  have h0 := Int.emod_nonneg i (show (l.length : Int) ≠ 0 by omega)
  have h1 := Int.emod_lt_of_pos i (show (0 : Int) < l.length by omega)
  exact ⟨(i % l.length).toNat, by omega, by omega, rfl⟩
theorem cy_modn {l : List Spot} (_ : 0 < l.length) (k : Nat) : cy l k = gS l (k % l.length) := by
  unfold cy; congr 1
theorem cy_add {l : List Spot} (i : Int) (t : Int) : cy l (i + t * l.length) = cy l i := cy_mod (by simp)
def AllB (l : List Spot) : Prop := ∀ k, k < l.length → inB (gS l k)
theorem AllB.cy {l : List Spot} (h : AllB l) (hl : 0 < l.length) (i : Int) : inB (cy l i) := by
  obtain ⟨k, hk, _, e⟩ := cy_of hl i
  rw [e]; exact h k hk
structure SimpleX (l : List Spot) : Prop where
  a : ∀ i j : Int, cy l i = cy l j → i % l.length = j % l.length
  b : ∀ i : Int, foldB (cy l i) (cy l (i + 1)) (cy l (i + 2)) = false
  c : ∀ i k : Int, (k - i) % l.length ≠ 0 → (k - i) % l.length ≠ 1 → (k - i) % l.length ≠ l.length - 1 → meetB (cy l i) (cy l (i + 1)) (cy l k) (cy l (k + 1)) = false
theorem shift_mod {i a n : Int} (h : i % n = a) (t : Int) : (i + t) % n = (a + t) % n := by rw [Int.add_emod, h, ← Int.add_emod_emod]; simp [← h]
theorem simple_iff {l : List Spot} (hB : AllB l) (h3 : 3 ≤ l.length) : simpleB l = true ↔ SimpleX l := by
  have hl : 0 < l.length := by omega
  unfold simpleB
  rw [Bool.and_eq_true, allB_iff, allB_iff]
  constructor
  · rintro ⟨hd, hs⟩
    have hdup : ∀ i j : Nat, j < i → i < l.length → gS l i ≠ gS l j := fun i j hji hi he => by
      have h := hd i hi
      unfold dupF at h
      simp only [Bool.not_eq_true', List.any_eq_false] at h
      have := h (gS l j) (by rw [gS_eq (show j < l.length by omega)]; exact List.mem_take_iff_getElem.2 ⟨j, by omega, rfl⟩)
      rw [he] at this; simp at this
    have hmeet : ∀ i k : Nat, i + 2 ≤ k → k < l.length → (k + 1) % l.length ≠ i → meetB (cy l i) (cy l (i + 1 : Nat)) (cy l k) (cy l (k + 1 : Nat)) = false := fun i k hik hk hne => by
      have h := hs i (by omega)
      unfold sideF at h
      rw [Bool.and_eq_true, allB_iff] at h
      have h2 := h.2 (k - (i + 2)) (by omega)
      unfold meetF at h2
      rw [show i + 2 + (k - (i + 2)) = k from by omega, Bool.or_eq_true] at h2
      rw [cy_nat (show i < l.length by omega), cy_modn hl, cy_nat hk, cy_modn hl]
      rcases h2 with h2 | h2
      · exact absurd (by simpa using h2) hne
      · simpa using h2
    refine ⟨fun i j he => ?_, fun i => ?_, fun i k h0 h1 h2 => ?_⟩
    · obtain ⟨a, ha, ea, ca⟩ := cy_of hl i
      obtain ⟨b, hb, eb, cb⟩ := cy_of hl j
      rw [ca, cb] at he
      rcases Nat.lt_trichotomy a b with h | h | h
      · exact absurd he.symm (hdup b a h hb)
      · rw [ea, eb, h]
      · exact absurd he (hdup a b h ha)
    · obtain ⟨a, ha, ea, ca⟩ := cy_of hl i
      have h := hs a ha
      unfold sideF at h
      rw [Bool.and_eq_true] at h
      have h1 := h.1
      rw [ca, cy_mod (l := l) (i := i + 1) (j := (a + 1 : Nat)) (by rw [shift_mod ea]; congr 1), cy_mod (l := l) (i := i + 2) (j := (a + 2 : Nat)) (by rw [shift_mod ea]; congr 1), cy_modn hl, cy_modn hl]
      simpa using h1
    · obtain ⟨a, ha, ea, ca⟩ := cy_of hl i
      obtain ⟨b, hb, eb, cb⟩ := cy_of hl k
      have e1 : cy l (i + 1) = cy l (a + 1 : Nat) := cy_mod (by rw [shift_mod ea]; congr 1)
      have e2 : cy l (k + 1) = cy l (b + 1 : Nat) := cy_mod (by rw [shift_mod eb]; congr 1)
      have e3 : cy l i = cy l (a : Nat) := cy_mod (by rw [ea, Int.emod_eq_of_lt (by omega) (by omega)])
      have e4 : cy l k = cy l (b : Nat) := cy_mod (by rw [eb, Int.emod_eq_of_lt (by omega) (by omega)])
      have ed : (k - i) % l.length = ((b : Int) - a) % l.length := by rw [Int.sub_emod, ea, eb]
      rw [ed] at h0 h1 h2
      rw [e1, e2, e3, e4]
      rcases Nat.lt_trichotomy a b with h | h | h
      · rw [Int.emod_eq_of_lt (by omega) (by omega)] at h0 h1 h2
        refine hmeet a b (by omega) hb (fun hm => ?_)
        rcases Nat.lt_or_ge (b + 1) l.length with hb' | hb'
        · rw [Nat.mod_eq_of_lt hb'] at hm; omega
        · rw [show b + 1 = l.length from by omega, Nat.mod_self] at hm; omega
      · subst h; simp at h0
      · have em : ((b : Int) - a) % l.length = (b : Int) - a + l.length := by
          rw [← Int.add_emod_right, Int.emod_eq_of_lt (by omega) (by omega)]
        rw [em] at h0 h1 h2
        rw [meetB_comm (hB.cy hl _) (hB.cy hl _) (hB.cy hl _) (hB.cy hl _)]
        refine hmeet b a (by omega) ha (fun hm => ?_)
        rcases Nat.lt_or_ge (a + 1) l.length with ha' | ha'
        · rw [Nat.mod_eq_of_lt ha'] at hm; omega
        · rw [show a + 1 = l.length from by omega, Nat.mod_self] at hm; omega
  · intro h
    refine ⟨fun i hi => ?_, fun i hi => ?_⟩
    · unfold dupF
      simp only [Bool.not_eq_true', List.any_eq_false]
      intro s hs he
      obtain ⟨j, hj, rfl⟩ := List.mem_take_iff_getElem.1 hs
      have hj' : j < i := by omega
      have e : gS l i = gS l j := by rw [gS_eq (show j < l.length by omega)]; simpa using he
      have := h.a i j (by rw [cy_nat hi, cy_nat (by omega), e])
      rw [Int.emod_eq_of_lt (by omega) (by omega), Int.emod_eq_of_lt (by omega) (by omega)] at this
      omega
    · unfold sideF
      rw [Bool.and_eq_true, allB_iff]
      have hb := h.b i
      rw [show (i : Int) + 1 = ((i + 1 : Nat) : Int) from by push_cast; rfl, show (i : Int) + 2 = ((i + 2 : Nat) : Int) from by push_cast; rfl, cy_nat hi, cy_modn hl, cy_modn hl] at hb
      refine ⟨by rw [hb]; rfl, fun j hj => ?_⟩
      unfold meetF
      rw [Bool.or_eq_true]
      by_cases hm : (i + 2 + j + 1) % l.length = i
      · exact .inl (by simpa using hm)
      · refine .inr ?_
        have hc := h.c i (i + 2 + j : Nat)
        have hd : (((i + 2 + j : Nat) : Int) - i) % l.length = 2 + j := by rw [Int.emod_eq_of_lt (by omega) (by omega)]; omega
        rw [hd] at hc
        have hc := hc (by omega) (by omega) (by
          intro e
          apply hm
          have : i = 0 := by omega
          subst this
          rw [show 0 + 2 + j + 1 = l.length from by omega, Nat.mod_self])
        rw [show (i : Int) + 1 = ((i + 1 : Nat) : Int) from by push_cast; rfl, show ((i + 2 + j : Nat) : Int) + 1 = ((i + 2 + j + 1 : Nat) : Int) from by push_cast; rfl, cy_nat hi, cy_modn hl, cy_nat (by omega), cy_modn hl] at hc
        rw [hc]; rfl
theorem sub_mod_iff {i j n : Int} (c : Int) : (i - c) % n = (j - c) % n ↔ i % n = j % n := by
  rw [Int.emod_eq_emod_iff_emod_sub_eq_zero, Int.emod_eq_emod_iff_emod_sub_eq_zero]
  rw [show i - c - (j - c) = i - j from by omega]
theorem neg_mod_iff {i j n : Int} (c : Int) : (c - i) % n = (c - j) % n ↔ i % n = j % n := by
  rw [Int.emod_eq_emod_iff_emod_sub_eq_zero, Int.emod_eq_emod_iff_emod_sub_eq_zero]
  rw [show c - i - (c - j) = -(i - j) from by omega, ← Int.dvd_iff_emod_eq_zero, ← Int.dvd_iff_emod_eq_zero, Int.dvd_neg]
theorem neg_emod' {x n : Int} (hn : 0 < n) : (-x) % n = if x % n = 0 then 0 else n - x % n := by
  have h0 := Int.emod_nonneg x (show n ≠ 0 by omega)
  have h1 := Int.emod_lt_of_pos x hn
  have e : (-x) % n = (-(x % n)) % n := by
    rw [Int.emod_eq_emod_iff_emod_sub_eq_zero, show -x - -(x % n) = -(x - x % n) from by omega, ← Int.dvd_iff_emod_eq_zero, Int.dvd_neg]
    exact ⟨x / n, by have := Int.emod_add_mul_ediv x n; omega⟩
  rw [e]
  split
  · rename_i h; rw [h]; simp
  · rw [← Int.add_emod_right, Int.emod_eq_of_lt (by omega) (by omega)]; omega
section
variable {l l' : List Spot} {T : Spot → Spot} {e : Int}
theorem shift_simple (hT : Pres T e) (hlen : l'.length = l.length) (hB : AllB l) (hl : 0 < l.length) (c : Int) (h : ∀ i, cy l' i = T (cy l (i + c))) : SimpleX l' ↔ SimpleX l := by
  have hb : ∀ i, inB (cy l i) := fun i => hB.cy hl i
  have h' : ∀ i, T (cy l i) = cy l' (i - c) := fun i => by rw [h, show i - c + c = i from by omega]
  constructor
  · intro s
    refine ⟨fun i j he => ?_, fun i => ?_, fun i k h0 h1 h2 => ?_⟩
    · have := s.a (i - c) (j - c) (by rw [← h', ← h', he])
      rw [hlen] at this
      exact (sub_mod_iff c).1 this
    · have := s.b (i - c)
      rw [show i - c + 1 = i + 1 - c from by omega, show i - c + 2 = i + 2 - c from by omega, ← h', ← h', ← h', hT.fold (hb _) (hb _) (hb _)] at this
      exact this
    · have := s.c (i - c) (k - c) (by rw [hlen, show k - c - (i - c) = k - i from by omega]; exact h0) (by rw [hlen, show k - c - (i - c) = k - i from by omega]; exact h1) (by rw [hlen, show k - c - (i - c) = k - i from by omega]; exact h2)
      rw [show i - c + 1 = i + 1 - c from by omega, show k - c + 1 = k + 1 - c from by omega, ← h', ← h', ← h', ← h', hT.meet (hb _) (hb _) (hb _) (hb _)] at this
      exact this
  · intro s
    refine ⟨fun i j he => ?_, fun i => ?_, fun i k h0 h1 h2 => ?_⟩
    · rw [h, h] at he
      have := s.a _ _ (hT.inj _ _ he (hb _) (hb _))
      rw [hlen]
      have h2 := (sub_mod_iff (i := i + c) (j := j + c) c).2 this
      rwa [show i + c - c = i from by omega, show j + c - c = j from by omega] at h2
    · rw [h, h, h, hT.fold (hb _) (hb _) (hb _)]
      have := s.b (i + c)
      rwa [show i + c + 1 = i + 1 + c from by omega, show i + c + 2 = i + 2 + c from by omega] at this
    · rw [hlen] at h0 h1 h2
      rw [h, h, h, h, hT.meet (hb _) (hb _) (hb _) (hb _)]
      have := s.c (i + c) (k + c) (by rw [show k + c - (i + c) = k - i from by omega]; exact h0) (by rw [show k + c - (i + c) = k - i from by omega]; exact h1) (by rw [show k + c - (i + c) = k - i from by omega]; exact h2)
      rwa [show i + c + 1 = i + 1 + c from by omega, show k + c + 1 = k + 1 + c from by omega] at this
theorem diff_rev {i k n : Int} (hn : 3 ≤ n) (h0 : (k - i) % n ≠ 0) (h1 : (k - i) % n ≠ 1) (h2 : (k - i) % n ≠ n - 1) : (i - k) % n ≠ 0 ∧ (i - k) % n ≠ 1 ∧ (i - k) % n ≠ n - 1 := by
  rw [show i - k = -(k - i) from by omega, neg_emod' (by omega), if_neg h0]
  have := Int.emod_lt_of_pos (k - i) (show 0 < n by omega)
  omega
theorem rev_simple (hT : Pres T e) (hlen : l'.length = l.length) (hB : AllB l) (h3 : 3 ≤ l.length) (c : Int) (h : ∀ i, cy l' i = T (cy l (c - i))) : SimpleX l' ↔ SimpleX l := by
  have hl : 0 < l.length := by omega
  have hb : ∀ i, inB (cy l i) := fun i => hB.cy hl i
  have h' : ∀ i, T (cy l i) = cy l' (c - i) := fun i => by rw [h, show c - (c - i) = i from by omega]
  constructor
  · intro s
    refine ⟨fun i j he => ?_, fun i => ?_, fun i k h0 h1 h2 => ?_⟩
    · have := s.a (c - i) (c - j) (by rw [← h', ← h', he])
      rw [hlen] at this
      exact (neg_mod_iff c).1 this
    · have := s.b (c - (i + 2))
      rw [show c - (i + 2) + 1 = c - (i + 1) from by omega, show c - (i + 2) + 2 = c - i from by omega, ← h', ← h', ← h', hT.fold (hb _) (hb _) (hb _), foldB_rev (hb _) (hb _) (hb _)] at this
      exact this
    · obtain ⟨d0, d1, d2⟩ := diff_rev (by omega) h0 h1 h2
      have ed : c - (k + 1) - (c - (i + 1)) = i - k := by omega
      have := s.c (c - (i + 1)) (c - (k + 1)) (by rw [hlen, ed]; exact d0) (by rw [hlen, ed]; exact d1) (by rw [hlen, ed]; exact d2)
      rw [show c - (i + 1) + 1 = c - i from by omega, show c - (k + 1) + 1 = c - k from by omega, ← h', ← h', ← h', ← h', hT.meet (hb _) (hb _) (hb _) (hb _), meetB_rev (hb _) (hb _) (hb _) (hb _)] at this
      exact this
  · intro s
    refine ⟨fun i j he => ?_, fun i => ?_, fun i k h0 h1 h2 => ?_⟩
    · rw [h, h] at he
      have := s.a _ _ (hT.inj _ _ he (hb _) (hb _))
      rw [hlen]
      exact (neg_mod_iff c).1 this
    · rw [h, h, h, hT.fold (hb _) (hb _) (hb _)]
      have := s.b (c - (i + 2))
      rw [show c - (i + 2) + 1 = c - (i + 1) from by omega, show c - (i + 2) + 2 = c - i from by omega, foldB_rev (hb _) (hb _) (hb _)] at this
      exact this
    · rw [hlen] at h0 h1 h2
      rw [h, h, h, h, hT.meet (hb _) (hb _) (hb _) (hb _)]
      obtain ⟨d0, d1, d2⟩ := diff_rev (by omega) h0 h1 h2
      have ed : c - (k + 1) - (c - (i + 1)) = i - k := by omega
      have := s.c (c - (i + 1)) (c - (k + 1)) (by rw [ed]; exact d0) (by rw [ed]; exact d1) (by rw [ed]; exact d2)
      rw [show c - (i + 1) + 1 = c - i from by omega, show c - (k + 1) + 1 = c - k from by omega, meetB_rev (hb _) (hb _) (hb _) (hb _)] at this
      exact this
end
end Go.Proofs.YtkigmpholnfkbaaGreat
