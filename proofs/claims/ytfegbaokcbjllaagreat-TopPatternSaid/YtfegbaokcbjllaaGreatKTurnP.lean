/- Plain: an outline and its turned image pass the check together. -/
import Derived.Test.YtfegbaokcbjllaaGreatKGraded
import Derived.Test.YtfegbaokcbjllaaGreatKSeg
import Derived.Test.YtfegbaokcbjllaaGreatKTurnD
/- Plain laws on grading: rounding, the multiple 0, corners, grading back, equal shifts. No program in sight. -/
namespace Go.Proofs.YtfegbaokcbjllaaGreat
open Go.RowKit
theorem rnd_zero (s : Int) (hs : 1 ≤ s) : rnd 0 s = 0 := by
 unfold rnd; rw [if_neg (by omega)]
 exact Int.ediv_eq_zero_of_lt (by omega) (by omega)
theorem half_div (x s : Int) (hs : 1 ≤ s) : (2 * (s * x) + s) / (2 * s) = x := by
 rw [show 2 * (s * x) + s = s + (2 * s) * x from by rw [Int.mul_assoc]; omega, Int.add_mul_ediv_left _ _ (by omega), Int.ediv_eq_zero_of_lt (by omega) (by omega)]; omega
theorem rnd_neg (a s : Int) (hs : 1 ≤ s) : rnd (-a) s = - rnd a s := by
 rcases Int.lt_trichotomy a 0 with h | h | h
 ·unfold rnd; rw [if_neg (by omega), if_pos h]; omega
 ·subst h; simp [rnd_zero s hs]
 ·unfold rnd; rw [if_pos (by omega), if_neg (by omega)]; simp
theorem rnd_bd (a s B : Int) (hs : 1 ≤ s) (h0 : -B * s ≤ a) (h1 : a ≤ B * s) : -B ≤ rnd a s ∧ rnd a s ≤ B := by
 have key : ∀ x : Int, 0 ≤ x → x ≤ B * s → 0 ≤ (2 * x + s) / (2 * s) ∧ (2 * x + s) / (2 * s) ≤ B := fun x hx hx' => by
  refine ⟨Int.ediv_nonneg (by omega) (by omega), ?_⟩
  have : (2 * x + s) / (2 * s) ≤ (2 * (s * B) + s) / (2 * s) := Int.ediv_le_ediv (by omega) (by rw [Int.mul_comm s B]; omega)
  rwa [half_div _ _ hs] at this
 have hB : 0 ≤ B := by
  rcases Int.lt_or_le B 0 with h | h
  ·have : B * s < 0 := Int.mul_neg_of_neg_of_pos h (by omega)
   have e : -B * s = -(B * s) := Int.neg_mul _ _
   omega
  ·exact h
 rw [Int.neg_mul] at h0
 unfold rnd
 split
 ·have := key (-a) (by omega) (by omega)
  omega
 ·have := key a (by omega) h1
  omega
theorem w64 {x : Int} (h0 : -9223372036854775808 ≤ x) (h1 : x ≤ 9223372036854775807) : wrap64 x = x := IntWalk.wrap64_in _ ⟨h0, by omega⟩
theorem list_ext_gE {a b : List Edge} (hl : a.length = b.length) (h : ∀ p, p < a.length → gE a p = gE b p) : a = b := by
 apply List.ext_getElem hl
 intro i h1 h2
 rw [← gE_eq h1, ← gE_eq h2]; exact h i h1
theorem list_ext_gS' {a b : List Spot} (hl : a.length = b.length) (h : ∀ p, p < a.length → gS a p = gS b p) : a = b := by
 apply List.ext_getElem hl
 intro i h1 h2
 rw [← gS_eq h1, ← gS_eq h2]; exact h i h1
theorem gradedE_get {es : List Edge} {cs : List Spot} {m : Int} {i : Nat} (h : i < es.length) : gE (gradedE es cs m) i = gradedAt es cs m i := by
 rw [gE_eq (by rw [gradedE_len]; exact h)]; simp [gradedE]
theorem movedS_g {l : List Spot} {a b : Spot} {k : Nat} (h : k < l.length) : gS (movedS l a b) k = mvS l a b k := by
 rw [gS_eq (by rw [movedS_len]; exact h), movedS_get h]
/- what it means that a piece can be graded -/
structure GOk (es : List Edge) (cs : List Spot) (m : Int) : Prop where
 m0 : -100 ≤ m
 m1 : m ≤ 100
 len : cs.length = es.length
 corn : allB (cornF cs) cs.length = true
 ok : ocheck es = 0
 ok' : ocheck (gradedE es cs m) = 0
theorem gradedR_iff (es : List Edge) (cs : List Spot) (m : Int) : gradedR es cs m = 0 ↔ GOk es cs m := by
 unfold gradedR
 constructor
 ·intro h
  split at h
  ·cases h
  split at h
  ·cases h
  split at h
  ·cases h
  split at h
  ·rename_i h1; exact absurd h h1
  ·rename_i h1 h2 h3 h4
   simp only [Bool.not_eq_false, decide_eq_true_eq] at h1
   exact ⟨h1.1, h1.2, by simpa using h2, by simpa using h3, by simpa using h4, h⟩
 ·rintro ⟨h1, h2, h3, h4, h5, h6⟩
  rw [if_neg (by simp; omega), if_neg (by simpa using h3), if_neg (by rw [h4]; decide), if_neg (by simpa using h5)]
  exact h6
theorem ocheck_edge {es : List Edge} (h : ocheck es = 0) {i : Nat} (hi : i < es.length) : edgeE es i = 0 := (firstE_zero _ _).1 (ocheck_ok h).2.2 i hi
theorem ocheck_line {es : List Edge} (h : ocheck es = 0) {i : Nat} (hi : i < es.length) : lcheck (gE es i).2 = 0 := edge_ok (ocheck_edge h hi)
theorem cornF_bd {cs : List Spot} (h : allB (cornF cs) cs.length = true) {j : Nat} (hj : j < cs.length) : -1000 ≤ (gS cs j).1 ∧ (gS cs j).1 ≤ 1000 ∧ -1000 ≤ (gS cs j).2 ∧ (gS cs j).2 ≤ 1000 := by
 have h1 := (allB_iff _ _).1 h j hj
 simp only [cornF, Bool.and_eq_true, decide_eq_true_eq] at h1
 omega
theorem mul_100 {m y : Int} (h0 : -100 ≤ m) (h1 : m ≤ 100) (hy : -1000 ≤ y) (hy' : y ≤ 1000) : -100000 ≤ m * y ∧ m * y ≤ 100000 := by
 rcases Int.le_total 0 m with h | h
 ·have a1 := Int.mul_le_mul_of_nonneg_left hy' h
  have a2 := Int.mul_le_mul_of_nonneg_left hy h
  omega
 ·have a1 := Int.mul_le_mul_of_nonpos_left h hy'
  have a2 := Int.mul_le_mul_of_nonpos_left h hy
  omega
theorem mulS_eq {m : Int} {s : Spot} (h0 : -100 ≤ m) (h1 : m ≤ 100) (h : -1000 ≤ s.1 ∧ s.1 ≤ 1000 ∧ -1000 ≤ s.2 ∧ s.2 ≤ 1000) : mulS m s = (m * s.1, m * s.2) := by
 have a := mul_100 h0 h1 h.1 h.2.1
 have b := mul_100 h0 h1 h.2.2.1 h.2.2.2
 unfold mulS; rw [w64 (by omega) (by omega), w64 (by omega) (by omega)]
theorem gS_map {f : Spot → Spot} {l : List Spot} {k : Nat} (h : k < l.length) : gS (l.map f) k = f (gS l k) := by
 rw [gS_eq (by simpa using h), gS_eq h]; simp
/- exact forms within the grid -/
def crossX (a b c : Spot) : Int := (b.1 - a.1) * (c.2 - a.2) - (b.2 - a.2) * (c.1 - a.1)
def dotX (a b c : Spot) : Int := (a.1 - b.1) * (c.1 - b.1) + (a.2 - b.2) * (c.2 - b.2)
theorem mul_bd2 {x y : Int} (h0 : -2097152 ≤ x) (h1 : x ≤ 2097152) (h2 : -2097152 ≤ y) (h3 : y ≤ 2097152) : -4398046511104 ≤ x * y ∧ x * y ≤ 4398046511104 := by
 rcases Int.le_total 0 x with h | h
 ·have a1 := Int.mul_le_mul_of_nonneg_left h3 h
  have a2 := Int.mul_le_mul_of_nonneg_left h2 h
  omega
 ·have a1 := Int.mul_le_mul_of_nonpos_left h h3
  have a2 := Int.mul_le_mul_of_nonpos_left h h2
  omega
theorem cross_eq {a b c : Spot} (ha : inB a) (hb : inB b) (hc : inB c) : cross a b c = crossX a b c := by
 obtain ⟨a1, a2, a3, a4⟩ := ha; obtain ⟨b1, b2, b3, b4⟩ := hb; obtain ⟨c1, c2, c3, c4⟩ := hc
 unfold cross crossX
 have e1 := mul_bd2 (x := b.1 - a.1) (y := c.2 - a.2) (by omega) (by omega) (by omega) (by omega)
 have e2 := mul_bd2 (x := b.2 - a.2) (y := c.1 - a.1) (by omega) (by omega) (by omega) (by omega)
 rw [w64 (x := b.1 - a.1) (by omega) (by omega), w64 (x := c.2 - a.2) (by omega) (by omega), w64 (x := b.2 - a.2) (by omega) (by omega), w64 (x := c.1 - a.1) (by omega) (by omega),
  w64 (x := (b.1 - a.1) * (c.2 - a.2)) (by omega) (by omega), w64 (x := (b.2 - a.2) * (c.1 - a.1)) (by omega) (by omega), w64 (by omega) (by omega)]
theorem fold_eq {a b c : Spot} (ha : inB a) (hb : inB b) (hc : inB c) : foldB a b c = (crossX a b c == 0 && decide (0 < dotX a b c)) := by
 unfold foldB
 rw [cross_eq ha hb hc]
 obtain ⟨a1, a2, a3, a4⟩ := ha; obtain ⟨b1, b2, b3, b4⟩ := hb; obtain ⟨c1, c2, c3, c4⟩ := hc
 have e1 := mul_bd2 (x := a.1 - b.1) (y := c.1 - b.1) (by omega) (by omega) (by omega) (by omega)
 have e2 := mul_bd2 (x := a.2 - b.2) (y := c.2 - b.2) (by omega) (by omega) (by omega) (by omega)
 rw [w64 (x := a.1 - b.1) (by omega) (by omega), w64 (x := c.1 - b.1) (by omega) (by omega), w64 (x := a.2 - b.2) (by omega) (by omega), w64 (x := c.2 - b.2) (by omega) (by omega),
  w64 (x := (a.1 - b.1) * (c.1 - b.1)) (by omega) (by omega), w64 (x := (a.2 - b.2) * (c.2 - b.2)) (by omega) (by omega), w64 (by omega) (by omega)]
 rfl
def boxX (a b p : Spot) : Prop := min a.1 b.1 ≤ p.1 ∧ p.1 ≤ max a.1 b.1 ∧ min a.2 b.2 ≤ p.2 ∧ p.2 ≤ max a.2 b.2
def onX (a b p : Spot) : Prop := crossX a b p = 0 ∧ boxX a b p
theorem on_iff {a b p : Spot} (ha : inB a) (hb : inB b) (hp : inB p) : onB a b p = true ↔ onX a b p := by
 unfold onB onX boxX
 rw [cross_eq ha hb hp]
 simp
def oppX (x y : Int) : Prop := (x < 0 ∧ 0 < y) ∨ (0 < x ∧ y < 0)
theorem part_iff {a b c d : Spot} (ha : inB a) (hb : inB b) (hc : inB c) (hd : inB d) : partB a b c d = true ↔ oppX (crossX a b c) (crossX a b d) := by
 unfold partB oppX
 rw [cross_eq ha hb hc, cross_eq ha hb hd]
 generalize crossX a b c = x
 generalize crossX a b d = y
 simp only [decide_eq_true_eq]
 have cn : ∀ z : Int, z < 0 → cmpI z 0 = -1 := fun z h => by unfold cmpI; rw [if_pos h]
 have cz : cmpI 0 0 = 0 := by decide
 have cp : ∀ z : Int, 0 < z → cmpI z 0 = 1 := fun z h => by unfold cmpI; rw [if_neg (by omega), if_pos h]
 rcases Int.lt_trichotomy x 0 with h | h | h <;> rcases Int.lt_trichotomy y 0 with h' | h' | h'
 ·rw [cn x h, cn y h', w64 (by omega) (by omega)]; omega
 ·subst h'; rw [cn x h, cz, w64 (by omega) (by omega)]; omega
 ·rw [cn x h, cp y h', w64 (by omega) (by omega)]; omega
 ·subst h; rw [cz, cn y h', w64 (by omega) (by omega)]; omega
 ·subst h; subst h'; rw [cz, w64 (by omega) (by omega)]; omega
 ·subst h; rw [cz, cp y h', w64 (by omega) (by omega)]; omega
 ·rw [cp x h, cn y h', w64 (by omega) (by omega)]; omega
 ·subst h'; rw [cp x h, cz, w64 (by omega) (by omega)]; omega
 ·rw [cp x h, cp y h', w64 (by omega) (by omega)]; omega
/- symmetries of the tests -/
theorem crossX_swap (a b c : Spot) : crossX b a c = - crossX a b c := by
 unfold crossX; simp only [Int.sub_mul, Int.mul_sub]; rw [Int.mul_comm b.1 c.2, Int.mul_comm b.1 a.2, Int.mul_comm a.1 c.2, Int.mul_comm a.1 b.2, Int.mul_comm b.1 b.2, Int.mul_comm a.1 a.2, Int.mul_comm b.2 c.1, Int.mul_comm a.2 c.1]; omega
theorem crossX_rev (a b c : Spot) : crossX c b a = - crossX a b c := by
 unfold crossX; simp only [Int.sub_mul, Int.mul_sub]; rw [Int.mul_comm b.1 a.2, Int.mul_comm b.1 c.2, Int.mul_comm c.1 a.2, Int.mul_comm c.1 c.2, Int.mul_comm b.2 a.1, Int.mul_comm b.2 c.1, Int.mul_comm c.2 a.1, Int.mul_comm a.1 a.2]; omega
theorem dotX_rev (a b c : Spot) : dotX c b a = dotX a b c := by unfold dotX; rw [Int.mul_comm (c.1 - b.1), Int.mul_comm (c.2 - b.2)]
theorem onX_swap (a b p : Spot) : onX b a p ↔ onX a b p := by
 unfold onX boxX; rw [crossX_swap]; omega
theorem oppX_neg (x y : Int) : oppX (-x) (-y) ↔ oppX x y := by unfold oppX; omega
theorem oppX_comm (x y : Int) : oppX y x ↔ oppX x y := by unfold oppX; omega
def meetX (a b c d : Spot) : Prop := onX a b c ∨ onX a b d ∨ onX c d a ∨ onX c d b ∨ (oppX (crossX a b c) (crossX a b d) ∧ oppX (crossX c d a) (crossX c d b))
theorem meet_iff {a b c d : Spot} (ha : inB a) (hb : inB b) (hc : inB c) (hd : inB d) : meetB a b c d = true ↔ meetX a b c d := by
 unfold meetB meetX
 simp only [Bool.or_eq_true, Bool.and_eq_true, on_iff ha hb hc, on_iff ha hb hd, on_iff hc hd ha, on_iff hc hd hb, part_iff ha hb hc hd, part_iff hc hd ha hb]
theorem meetX_comm (a b c d : Spot) : meetX c d a b ↔ meetX a b c d := by
 unfold meetX
 constructor
 ·rintro (h | h | h | h | ⟨h, h'⟩)
  ·exact .inr (.inr (.inl h))
  ·exact .inr (.inr (.inr (.inl h)))
  ·exact .inl h
  ·exact .inr (.inl h)
  ·exact .inr (.inr (.inr (.inr ⟨h', h⟩)))
 ·rintro (h | h | h | h | ⟨h, h'⟩)
  ·exact .inr (.inr (.inl h))
  ·exact .inr (.inr (.inr (.inl h)))
  ·exact .inl h
  ·exact .inr (.inl h)
  ·exact .inr (.inr (.inr (.inr ⟨h', h⟩)))
theorem meetX_rev (a b c d : Spot) : meetX b a d c ↔ meetX a b c d := by
 unfold meetX
 rw [onX_swap a b d, onX_swap a b c, onX_swap c d b, onX_swap c d a, crossX_swap a b d, crossX_swap a b c, crossX_swap c d b, crossX_swap c d a, oppX_neg, oppX_neg, oppX_comm (crossX a b c), oppX_comm (crossX c d a)]
 constructor
 ·rintro (h | h | h | h | h)
  ·exact .inr (.inl h)
  ·exact .inl h
  ·exact .inr (.inr (.inr (.inl h)))
  ·exact .inr (.inr (.inl h))
  ·exact .inr (.inr (.inr (.inr h)))
 ·rintro (h | h | h | h | h)
  ·exact .inr (.inl h)
  ·exact .inl h
  ·exact .inr (.inr (.inr (.inl h)))
  ·exact .inr (.inr (.inl h))
  ·exact .inr (.inr (.inr (.inr h)))
/- what a map does that keeps all tests -/
structure Pres (T : Spot → Spot) (e : Int) : Prop where
 e1 : e = 1 ∨ e = -1
 b : ∀ s, inB s → inB (T s)
 inj : ∀ s t, T s = T t → inB s → inB t → s = t
 cr : ∀ a b c, inB a → inB b → inB c → crossX (T a) (T b) (T c) = e * crossX a b c
 dt : ∀ a b c, inB a → inB b → inB c → dotX (T a) (T b) (T c) = dotX a b c
 bx : ∀ a b p, inB a → inB b → inB p → (boxX (T a) (T b) (T p) ↔ boxX a b p)
theorem Pres.cr0 {T : Spot → Spot} {e : Int} (h : Pres T e) {a b c : Spot} (ha : inB a) (hb : inB b) (hc : inB c) : crossX (T a) (T b) (T c) = 0 ↔ crossX a b c = 0 := by
 rw [h.cr a b c ha hb hc]; rcases h.e1 with h | h <;> subst h <;> omega
theorem Pres.on {T : Spot → Spot} {e : Int} (h : Pres T e) {a b c : Spot} (ha : inB a) (hb : inB b) (hc : inB c) : onX (T a) (T b) (T c) ↔ onX a b c := by
 unfold onX; rw [h.cr0 ha hb hc, h.bx a b c ha hb hc]
theorem Pres.opp {T : Spot → Spot} {e : Int} (h : Pres T e) {a b c d : Spot} (ha : inB a) (hb : inB b) (hc : inB c) (hd : inB d) : oppX (crossX (T a) (T b) (T c)) (crossX (T a) (T b) (T d)) ↔ oppX (crossX a b c) (crossX a b d) := by
 rw [h.cr a b c ha hb hc, h.cr a b d ha hb hd]
 rcases h.e1 with h | h <;> subst h
 ·simp
 ·rw [Int.neg_one_mul, Int.neg_one_mul, oppX_neg]
theorem Pres.meet {T : Spot → Spot} {e : Int} (h : Pres T e) {a b c d : Spot} (ha : inB a) (hb : inB b) (hc : inB c) (hd : inB d) : meetB (T a) (T b) (T c) (T d) = meetB a b c d := by
 rw [Bool.eq_iff_iff, meet_iff (h.b a ha) (h.b b hb) (h.b c hc) (h.b d hd), meet_iff ha hb hc hd]
 unfold meetX
 rw [h.on ha hb hc, h.on ha hb hd, h.on hc hd ha, h.on hc hd hb, h.opp ha hb hc hd, h.opp hc hd ha hb]
theorem Pres.fold {T : Spot → Spot} {e : Int} (h : Pres T e) {a b c : Spot} (ha : inB a) (hb : inB b) (hc : inB c) : foldB (T a) (T b) (T c) = foldB a b c := by
 rw [fold_eq (h.b a ha) (h.b b hb) (h.b c hc), fold_eq ha hb hc, h.dt a b c ha hb hc]
 congr 1
 rw [Bool.eq_iff_iff]; simp [h.cr0 ha hb hc]
theorem meetB_comm {a b c d : Spot} (ha : inB a) (hb : inB b) (hc : inB c) (hd : inB d) : meetB c d a b = meetB a b c d := by
 rw [Bool.eq_iff_iff, meet_iff hc hd ha hb, meet_iff ha hb hc hd, meetX_comm]
theorem meetB_rev {a b c d : Spot} (ha : inB a) (hb : inB b) (hc : inB c) (hd : inB d) : meetB b a d c = meetB a b c d := by
 rw [Bool.eq_iff_iff, meet_iff hb ha hd hc, meet_iff ha hb hc hd, meetX_rev]
theorem foldB_rev {a b c : Spot} (ha : inB a) (hb : inB b) (hc : inB c) : foldB c b a = foldB a b c := by
 rw [fold_eq hc hb ha, fold_eq ha hb hc, dotX_rev, crossX_rev]
 congr 1
 rw [Bool.eq_iff_iff]; simp
theorem Pres.id : Pres (fun s => s) 1 := ⟨.inl rfl, fun _ h => h, fun _ _ h _ _ => h, fun _ _ _ _ _ _ => by simp, fun _ _ _ _ _ _ => rfl, fun _ _ _ _ _ _ => Iff.rfl⟩
theorem Pres.comp {T U : Spot → Spot} {e f : Int} (h : Pres T e) (k : Pres U f) : Pres (fun s => U (T s)) (f * e) where
 e1 := by rcases h.e1 with h | h <;> rcases k.e1 with k | k <;> subst h <;> subst k <;> simp
 b := fun s hs => k.b _ (h.b s hs)
 inj := fun s t he hs ht => h.inj s t (k.inj _ _ he (h.b s hs) (h.b t ht)) hs ht
 cr := fun a b c ha hb hc => by rw [k.cr _ _ _ (h.b a ha) (h.b b hb) (h.b c hc), h.cr a b c ha hb hc, Int.mul_assoc]
 dt := fun a b c ha hb hc => by rw [k.dt _ _ _ (h.b a ha) (h.b b hb) (h.b c hc), h.dt a b c ha hb hc]
 bx := fun a b c ha hb hc => (k.bx _ _ _ (h.b a ha) (h.b b hb) (h.b c hc)).trans (h.bx a b c ha hb hc)
theorem quart_eq {s : Spot} (h : inB s) : quart s = (-s.2, s.1) := by
 obtain ⟨h1, h2, h3, h4⟩ := h
 unfold quart; rw [w64 (by omega) (by omega)]
theorem flip_eq {s : Spot} (h : inB s) : flipS true s = (-s.1, s.2) := by
 obtain ⟨h1, h2, h3, h4⟩ := h
 unfold flipS; rw [if_pos rfl, w64 (by omega) (by omega)]
theorem pres_quart : Pres quart 1 where
 e1 := .inl rfl
 b := fun s h => by rw [quart_eq h]; obtain ⟨h1, h2, h3, h4⟩ := h; exact ⟨by simp only; omega, by simp only; omega, by simp only; omega, by simp only; omega⟩
 inj := fun s t he hs ht => by
  rw [quart_eq hs, quart_eq ht] at he
  injection he with e1 e2
  exact Prod.ext (by omega) (by omega)
 cr := fun a b c ha hb hc => by
  rw [quart_eq ha, quart_eq hb, quart_eq hc]; unfold crossX
  simp only [Int.one_mul]
  rw [show (-b.2 - -a.2) = -(b.2 - a.2) from by omega, show (-c.2 - -a.2) = -(c.2 - a.2) from by omega, Int.neg_mul, Int.mul_neg]; omega
 dt := fun a b c ha hb hc => by
  rw [quart_eq ha, quart_eq hb, quart_eq hc]; unfold dotX
  simp only
  rw [show (-a.2 - -b.2) = -(a.2 - b.2) from by omega, show (-c.2 - -b.2) = -(c.2 - b.2) from by omega, Int.neg_mul_neg]; omega
 bx := fun a b c ha hb hc => by
  rw [quart_eq ha, quart_eq hb, quart_eq hc]; unfold boxX
  simp only; omega
theorem pres_flip : Pres (flipS true) (-1) where
 e1 := .inr rfl
 b := fun s h => by rw [flip_eq h]; obtain ⟨h1, h2, h3, h4⟩ := h; exact ⟨by simp only; omega, by simp only; omega, by simp only; omega, by simp only; omega⟩
 inj := fun s t he hs ht => by
  rw [flip_eq hs, flip_eq ht] at he
  injection he with e1 e2
  exact Prod.ext (by omega) (by omega)
 cr := fun a b c ha hb hc => by
  rw [flip_eq ha, flip_eq hb, flip_eq hc]; unfold crossX
  simp only
  rw [show (-b.1 - -a.1) = -(b.1 - a.1) from by omega, show (-c.1 - -a.1) = -(c.1 - a.1) from by omega, Int.neg_mul, Int.mul_neg]; omega
 dt := fun a b c ha hb hc => by
  rw [flip_eq ha, flip_eq hb, flip_eq hc]; unfold dotX
  simp only
  rw [show (-a.1 - -b.1) = -(a.1 - b.1) from by omega, show (-c.1 - -b.1) = -(c.1 - b.1) from by omega, Int.neg_mul_neg]
 bx := fun a b c ha hb hc => by
  rw [flip_eq ha, flip_eq hb, flip_eq hc]; unfold boxX
  simp only; omega
def sgn (f : Bool) : Int := if f = true then -1 else 1
theorem pres_quarts : ∀ n, Pres (quarts n) 1
 |0 => Pres.id
 |n + 1 => by have h := (pres_quarts n).comp pres_quart; rw [Int.mul_one] at h; exact h
theorem pres_apply (f : Bool) (q : Int) : Pres (applyT f q) (sgn f) := by
 cases f
 ·have h := pres_quarts (q % 4).toNat
  exact h
 ·have h := pres_flip.comp (pres_quarts (q % 4).toNat)
  rw [Int.one_mul] at h
  exact h
/- the closed row: index modulo the length -/
def cy (l : List Spot) (i : Int) : Spot := gS l (i % l.length).toNat
theorem cy_nat {l : List Spot} {k : Nat} (h : k < l.length) : cy l k = gS l k := by
 unfold cy; rw [Int.emod_eq_of_lt (by omega) (by omega)]; rfl
theorem cy_mod {l : List Spot} {i j : Int} (h : i % l.length = j % l.length) : cy l i = cy l j := by unfold cy; rw [h]
theorem cy_of {l : List Spot} (hl : 0 < l.length) (i : Int) : ∃ k : Nat, k < l.length ∧ i % l.length = k ∧ cy l i = gS l k := by
 have h0 := Int.emod_nonneg i (show (l.length : Int) ≠ 0 by omega)
 have h1 := Int.emod_lt_of_pos i (show (0 : Int) < l.length by omega)
 exact ⟨(i % l.length).toNat, by omega, by omega, rfl⟩
theorem cy_modn {l : List Spot} (_ : 0 < l.length) (k : Nat) : cy l k = gS l (k % l.length) := by
 unfold cy; congr 1
theorem cy_add {l : List Spot} (i : Int) (t : Int) : cy l (i + t * l.length) = cy l i := cy_mod (by simp)
def AllB (l : List Spot) : Prop := ∀ k, k < l.length → inB (gS l k)
theorem AllB.cy {l : List Spot} (h : AllB l) (hl : 0 < l.length) (i : Int) : inB (cy l i) := by
 obtain ⟨k, hk, _, e⟩ := cy_of hl i
 rw [e]; exact h k hk
structure SimpleX (l : List Spot) : Prop where
 a : ∀ i j : Int, cy l i = cy l j → i % l.length = j % l.length
 b : ∀ i : Int, foldB (cy l i) (cy l (i + 1)) (cy l (i + 2)) = false
 c : ∀ i k : Int, (k - i) % l.length ≠ 0 → (k - i) % l.length ≠ 1 → (k - i) % l.length ≠ l.length - 1 → meetB (cy l i) (cy l (i + 1)) (cy l k) (cy l (k + 1)) = false
theorem shift_mod {i a n : Int} (h : i % n = a) (t : Int) : (i + t) % n = (a + t) % n := by rw [Int.add_emod, h, ← Int.add_emod_emod]; simp [← h]
theorem simple_iff {l : List Spot} (hB : AllB l) (h3 : 3 ≤ l.length) : simpleB l = true ↔ SimpleX l := by
 have hl : 0 < l.length := by omega
 unfold simpleB
 rw [Bool.and_eq_true, allB_iff, allB_iff]
 constructor
 ·rintro ⟨hd, hs⟩
  have hdup : ∀ i j : Nat, j < i → i < l.length → gS l i ≠ gS l j := fun i j hji hi he => by
   have h := hd i hi
   unfold dupF at h
   simp only [Bool.not_eq_true', List.any_eq_false] at h
   have := h (gS l j) (by rw [gS_eq (show j < l.length by omega)]; exact List.mem_take_iff_getElem.2 ⟨j, by omega, rfl⟩)
   rw [he] at this; simp at this
  have hmeet : ∀ i k : Nat, i + 2 ≤ k → k < l.length → (k + 1) % l.length ≠ i → meetB (cy l i) (cy l (i + 1 : Nat)) (cy l k) (cy l (k + 1 : Nat)) = false := fun i k hik hk hne => by
   have h := hs i (by omega)
   unfold sideF at h
   rw [Bool.and_eq_true, allB_iff] at h
   have h2 := h.2 (k - (i + 2)) (by omega)
   unfold meetF at h2
   rw [show i + 2 + (k - (i + 2)) = k from by omega, Bool.or_eq_true] at h2
   rw [cy_nat (show i < l.length by omega), cy_modn hl, cy_nat hk, cy_modn hl]
   rcases h2 with h2 | h2
   ·exact absurd (by simpa using h2) hne
   ·simpa using h2
  refine ⟨fun i j he => ?_, fun i => ?_, fun i k h0 h1 h2 => ?_⟩
  ·obtain ⟨a, ha, ea, ca⟩ := cy_of hl i
   obtain ⟨b, hb, eb, cb⟩ := cy_of hl j
   rw [ca, cb] at he
   rcases Nat.lt_trichotomy a b with h | h | h
   ·exact absurd he.symm (hdup b a h hb)
   ·rw [ea, eb, h]
   ·exact absurd he (hdup a b h ha)
  ·obtain ⟨a, ha, ea, ca⟩ := cy_of hl i
   have h := hs a ha
   unfold sideF at h
   rw [Bool.and_eq_true] at h
   have h1 := h.1
   rw [ca, cy_mod (l := l) (i := i + 1) (j := (a + 1 : Nat)) (by rw [shift_mod ea]; congr 1), cy_mod (l := l) (i := i + 2) (j := (a + 2 : Nat)) (by rw [shift_mod ea]; congr 1), cy_modn hl, cy_modn hl]
   simpa using h1
  ·obtain ⟨a, ha, ea, ca⟩ := cy_of hl i
   obtain ⟨b, hb, eb, cb⟩ := cy_of hl k
   have e1 : cy l (i + 1) = cy l (a + 1 : Nat) := cy_mod (by rw [shift_mod ea]; congr 1)
   have e2 : cy l (k + 1) = cy l (b + 1 : Nat) := cy_mod (by rw [shift_mod eb]; congr 1)
   have e3 : cy l i = cy l (a : Nat) := cy_mod (by rw [ea, Int.emod_eq_of_lt (by omega) (by omega)])
   have e4 : cy l k = cy l (b : Nat) := cy_mod (by rw [eb, Int.emod_eq_of_lt (by omega) (by omega)])
   have ed : (k - i) % l.length = ((b : Int) - a) % l.length := by rw [Int.sub_emod, ea, eb]
   rw [ed] at h0 h1 h2
   rw [e1, e2, e3, e4]
   rcases Nat.lt_trichotomy a b with h | h | h
   ·rw [Int.emod_eq_of_lt (by omega) (by omega)] at h0 h1 h2
    refine hmeet a b (by omega) hb (fun hm => ?_)
    rcases Nat.lt_or_ge (b + 1) l.length with hb' | hb'
    ·rw [Nat.mod_eq_of_lt hb'] at hm; omega
    ·rw [show b + 1 = l.length from by omega, Nat.mod_self] at hm; omega
   ·subst h; simp at h0
   ·have em : ((b : Int) - a) % l.length = (b : Int) - a + l.length := by
     rw [← Int.add_emod_right, Int.emod_eq_of_lt (by omega) (by omega)]
    rw [em] at h0 h1 h2
    rw [meetB_comm (hB.cy hl _) (hB.cy hl _) (hB.cy hl _) (hB.cy hl _)]
    refine hmeet b a (by omega) ha (fun hm => ?_)
    rcases Nat.lt_or_ge (a + 1) l.length with ha' | ha'
    ·rw [Nat.mod_eq_of_lt ha'] at hm; omega
    ·rw [show a + 1 = l.length from by omega, Nat.mod_self] at hm; omega
 ·intro h
  refine ⟨fun i hi => ?_, fun i hi => ?_⟩
  ·unfold dupF
   simp only [Bool.not_eq_true', List.any_eq_false]
   intro s hs he
   obtain ⟨j, hj, rfl⟩ := List.mem_take_iff_getElem.1 hs
   have hj' : j < i := by omega
   have e : gS l i = gS l j := by rw [gS_eq (show j < l.length by omega)]; simpa using he
   have := h.a i j (by rw [cy_nat hi, cy_nat (by omega), e])
   rw [Int.emod_eq_of_lt (by omega) (by omega), Int.emod_eq_of_lt (by omega) (by omega)] at this
   omega
  ·unfold sideF
   rw [Bool.and_eq_true, allB_iff]
   have hb := h.b i
   rw [show (i : Int) + 1 = ((i + 1 : Nat) : Int) from by push_cast; rfl, show (i : Int) + 2 = ((i + 2 : Nat) : Int) from by push_cast; rfl, cy_nat hi, cy_modn hl, cy_modn hl] at hb
   refine ⟨by rw [hb]; rfl, fun j hj => ?_⟩
   unfold meetF
   rw [Bool.or_eq_true]
   by_cases hm : (i + 2 + j + 1) % l.length = i
   ·exact .inl (by simpa using hm)
   ·refine .inr ?_
    have hc := h.c i (i + 2 + j : Nat)
    have hd : (((i + 2 + j : Nat) : Int) - i) % l.length = 2 + j := by rw [Int.emod_eq_of_lt (by omega) (by omega)]; omega
    rw [hd] at hc
    have hc := hc (by omega) (by omega) (by
     intro e
     apply hm
     have : i = 0 := by omega
     subst this
     rw [show 0 + 2 + j + 1 = l.length from by omega, Nat.mod_self])
    rw [show (i : Int) + 1 = ((i + 1 : Nat) : Int) from by push_cast; rfl, show ((i + 2 + j : Nat) : Int) + 1 = ((i + 2 + j + 1 : Nat) : Int) from by push_cast; rfl, cy_nat hi, cy_modn hl, cy_nat (by omega), cy_modn hl] at hc
    rw [hc]; rfl
theorem sub_mod_iff {i j n : Int} (c : Int) : (i - c) % n = (j - c) % n ↔ i % n = j % n := by
 rw [Int.emod_eq_emod_iff_emod_sub_eq_zero, Int.emod_eq_emod_iff_emod_sub_eq_zero]
 rw [show i - c - (j - c) = i - j from by omega]
theorem neg_mod_iff {i j n : Int} (c : Int) : (c - i) % n = (c - j) % n ↔ i % n = j % n := by
 rw [Int.emod_eq_emod_iff_emod_sub_eq_zero, Int.emod_eq_emod_iff_emod_sub_eq_zero]
 rw [show c - i - (c - j) = -(i - j) from by omega, ← Int.dvd_iff_emod_eq_zero, ← Int.dvd_iff_emod_eq_zero, Int.dvd_neg]
theorem neg_emod' {x n : Int} (hn : 0 < n) : (-x) % n = if x % n = 0 then 0 else n - x % n := by
 have h0 := Int.emod_nonneg x (show n ≠ 0 by omega)
 have h1 := Int.emod_lt_of_pos x hn
 have e : (-x) % n = (-(x % n)) % n := by
  rw [Int.emod_eq_emod_iff_emod_sub_eq_zero, show -x - -(x % n) = -(x - x % n) from by omega, ← Int.dvd_iff_emod_eq_zero, Int.dvd_neg]
  exact ⟨x / n, by have := Int.emod_add_mul_ediv x n; omega⟩
 rw [e]
 split
 ·rename_i h; rw [h]; simp
 ·rw [← Int.add_emod_right, Int.emod_eq_of_lt (by omega) (by omega)]; omega
section
variable {l l' : List Spot} {T : Spot → Spot} {e : Int}
theorem shift_simple (hT : Pres T e) (hlen : l'.length = l.length) (hB : AllB l) (hl : 0 < l.length) (c : Int) (h : ∀ i, cy l' i = T (cy l (i + c))) : SimpleX l' ↔ SimpleX l := by
 have hb : ∀ i, inB (cy l i) := fun i => hB.cy hl i
 have h' : ∀ i, T (cy l i) = cy l' (i - c) := fun i => by rw [h, show i - c + c = i from by omega]
 constructor
 ·intro s
  refine ⟨fun i j he => ?_, fun i => ?_, fun i k h0 h1 h2 => ?_⟩
  ·have := s.a (i - c) (j - c) (by rw [← h', ← h', he])
   rw [hlen] at this
   exact (sub_mod_iff c).1 this
  ·have := s.b (i - c)
   rw [show i - c + 1 = i + 1 - c from by omega, show i - c + 2 = i + 2 - c from by omega, ← h', ← h', ← h', hT.fold (hb _) (hb _) (hb _)] at this
   exact this
  ·have := s.c (i - c) (k - c) (by rw [hlen, show k - c - (i - c) = k - i from by omega]; exact h0) (by rw [hlen, show k - c - (i - c) = k - i from by omega]; exact h1) (by rw [hlen, show k - c - (i - c) = k - i from by omega]; exact h2)
   rw [show i - c + 1 = i + 1 - c from by omega, show k - c + 1 = k + 1 - c from by omega, ← h', ← h', ← h', ← h', hT.meet (hb _) (hb _) (hb _) (hb _)] at this
   exact this
 ·intro s
  refine ⟨fun i j he => ?_, fun i => ?_, fun i k h0 h1 h2 => ?_⟩
  ·rw [h, h] at he
   have := s.a _ _ (hT.inj _ _ he (hb _) (hb _))
   rw [hlen]
   have h2 := (sub_mod_iff (i := i + c) (j := j + c) c).2 this
   rwa [show i + c - c = i from by omega, show j + c - c = j from by omega] at h2
  ·rw [h, h, h, hT.fold (hb _) (hb _) (hb _)]
   have := s.b (i + c)
   rwa [show i + c + 1 = i + 1 + c from by omega, show i + c + 2 = i + 2 + c from by omega] at this
  ·rw [hlen] at h0 h1 h2
   rw [h, h, h, h, hT.meet (hb _) (hb _) (hb _) (hb _)]
   have := s.c (i + c) (k + c) (by rw [show k + c - (i + c) = k - i from by omega]; exact h0) (by rw [show k + c - (i + c) = k - i from by omega]; exact h1) (by rw [show k + c - (i + c) = k - i from by omega]; exact h2)
   rwa [show i + c + 1 = i + 1 + c from by omega, show k + c + 1 = k + 1 + c from by omega] at this
theorem diff_rev {i k n : Int} (hn : 3 ≤ n) (h0 : (k - i) % n ≠ 0) (h1 : (k - i) % n ≠ 1) (h2 : (k - i) % n ≠ n - 1) : (i - k) % n ≠ 0 ∧ (i - k) % n ≠ 1 ∧ (i - k) % n ≠ n - 1 := by
 rw [show i - k = -(k - i) from by omega, neg_emod' (by omega), if_neg h0]
 have := Int.emod_lt_of_pos (k - i) (show 0 < n by omega)
 omega
theorem rev_simple (hT : Pres T e) (hlen : l'.length = l.length) (hB : AllB l) (h3 : 3 ≤ l.length) (c : Int) (h : ∀ i, cy l' i = T (cy l (c - i))) : SimpleX l' ↔ SimpleX l := by
 have hl : 0 < l.length := by omega
 have hb : ∀ i, inB (cy l i) := fun i => hB.cy hl i
 have h' : ∀ i, T (cy l i) = cy l' (c - i) := fun i => by rw [h, show c - (c - i) = i from by omega]
 constructor
 ·intro s
  refine ⟨fun i j he => ?_, fun i => ?_, fun i k h0 h1 h2 => ?_⟩
  ·have := s.a (c - i) (c - j) (by rw [← h', ← h', he])
   rw [hlen] at this
   exact (neg_mod_iff c).1 this
  ·have := s.b (c - (i + 2))
   rw [show c - (i + 2) + 1 = c - (i + 1) from by omega, show c - (i + 2) + 2 = c - i from by omega, ← h', ← h', ← h', hT.fold (hb _) (hb _) (hb _), foldB_rev (hb _) (hb _) (hb _)] at this
   exact this
  ·obtain ⟨d0, d1, d2⟩ := diff_rev (by omega) h0 h1 h2
   have ed : c - (k + 1) - (c - (i + 1)) = i - k := by omega
   have := s.c (c - (i + 1)) (c - (k + 1)) (by rw [hlen, ed]; exact d0) (by rw [hlen, ed]; exact d1) (by rw [hlen, ed]; exact d2)
   rw [show c - (i + 1) + 1 = c - i from by omega, show c - (k + 1) + 1 = c - k from by omega, ← h', ← h', ← h', ← h', hT.meet (hb _) (hb _) (hb _) (hb _), meetB_rev (hb _) (hb _) (hb _) (hb _)] at this
   exact this
 ·intro s
  refine ⟨fun i j he => ?_, fun i => ?_, fun i k h0 h1 h2 => ?_⟩
  ·rw [h, h] at he
   have := s.a _ _ (hT.inj _ _ he (hb _) (hb _))
   rw [hlen]
   exact (neg_mod_iff c).1 this
  ·rw [h, h, h, hT.fold (hb _) (hb _) (hb _)]
   have := s.b (c - (i + 2))
   rw [show c - (i + 2) + 1 = c - (i + 1) from by omega, show c - (i + 2) + 2 = c - i from by omega, foldB_rev (hb _) (hb _) (hb _)] at this
   exact this
  ·rw [hlen] at h0 h1 h2
   rw [h, h, h, h, hT.meet (hb _) (hb _) (hb _) (hb _)]
   obtain ⟨d0, d1, d2⟩ := diff_rev (by omega) h0 h1 h2
   have ed : c - (k + 1) - (c - (i + 1)) = i - k := by omega
   have := s.c (c - (i + 1)) (c - (k + 1)) (by rw [ed]; exact d0) (by rw [ed]; exact d1) (by rw [ed]; exact d2)
   rw [show c - (i + 1) + 1 = c - i from by omega, show c - (k + 1) + 1 = c - k from by omega, meetB_rev (hb _) (hb _) (hb _) (hb _)] at this
   exact this
end
def wfS (s : Spot) : Prop := -9223372036854775808 ≤ s.1 ∧ s.1 ≤ 9223372036854775807 ∧ -9223372036854775808 ≤ s.2 ∧ s.2 ≤ 9223372036854775807
theorem wneg {x : Int} (h0 : -9223372036854775808 ≤ x) (h1 : x ≤ 9223372036854775807) : wrap64 (-x) = if x = -9223372036854775808 then x else -x := by
 split
 ·rename_i h; subst h; unfold wrap64; omega
 ·exact w64 (by omega) (by omega)
theorem wfS_quart {s : Spot} (h : wfS s) : wfS (quart s) ∧ (inB (quart s) ↔ inB s) := by
 obtain ⟨h1, h2, h3, h4⟩ := h
 unfold quart wfS inB
 rw [wneg h3 h4]
 split <;> (simp only; omega)
theorem wfS_flip {s : Spot} (h : wfS s) : wfS (flipS true s) ∧ (inB (flipS true s) ↔ inB s) := by
 obtain ⟨h1, h2, h3, h4⟩ := h
 have e : flipS true s = (if s.1 = -9223372036854775808 then s.1 else -s.1, s.2) := by unfold flipS; rw [if_pos rfl, wneg h1 h2]
 rw [e]
 unfold wfS inB
 by_cases h : s.1 = -9223372036854775808
 ·simp only [if_pos h]; exact ⟨⟨h1, h2, h3, h4⟩, trivial⟩
 ·simp only [if_neg h]; omega
theorem wfS_quarts {s : Spot} (h : wfS s) : ∀ n, wfS (quarts n s) ∧ (inB (quarts n s) ↔ inB s)
 |0 => ⟨h, Iff.rfl⟩
 |n + 1 => by
  obtain ⟨a, b⟩ := wfS_quarts h n
  obtain ⟨c, d⟩ := wfS_quart a
  exact ⟨c, d.trans b⟩
theorem wfS_apply {s : Spot} (h : wfS s) (f : Bool) (q : Int) : wfS (applyT f q s) ∧ (inB (applyT f q s) ↔ inB s) := by
 cases f
 ·exact wfS_quarts h _
 ·obtain ⟨a, b⟩ := wfS_flip h
  obtain ⟨c, d⟩ := wfS_quarts a (q % 4).toNat
  exact ⟨c, d.trans b⟩
theorem inB_wf {s : Spot} (h : inB s) : wfS s := by obtain ⟨h1, h2, h3, h4⟩ := h; exact ⟨by omega, by omega, by omega, by omega⟩
def WfL (l : List Spot) : Prop := ∀ k, k < l.length → wfS (gS l k)
def WfE (es : List Edge) : Prop := ∀ i, i < es.length → WfL (gE es i).2
/- lines -/
theorem outB_iff (s : Spot) : outB s = false ↔ inB s := by
 unfold outB inB
 rw [decide_eq_false_iff_not]; omega
theorem any_out (l : List Spot) : l.any outB = false ↔ AllB l := by
 rw [List.any_eq_false]
 constructor
 ·intro h k hk
  rw [gS_eq hk]
  exact (outB_iff _).1 (by simpa using h _ (List.getElem_mem hk))
 ·intro h s hs
  obtain ⟨k, hk, rfl⟩ := List.getElem_of_mem hs
  have := h k hk
  rw [gS_eq hk] at this
  simp [(outB_iff _).2 this]
theorem lcheck_iff (l : List Spot) : lcheck l = 0 ↔ 2 ≤ l.length ∧ l.length ≤ 40 ∧ AllB l ∧ ∀ k, k + 1 < l.length → gS l k ≠ gS l (k + 1) := by
 constructor
 ·intro h
  obtain ⟨h2, h40, hin⟩ := lcheck_zero h
  refine ⟨h2, h40, hin, fun k hk => ?_⟩
  unfold lcheck at h
  rw [if_neg (by omega), if_neg (by omega), if_neg (by rw [(any_out l).2 hin]; decide)] at h
  split at h
  ·rename_i hs
   have := (allB_iff _ _).1 hs k (by omega)
   unfold stepF at this
   simpa using this
  ·cases h
 ·rintro ⟨h2, h40, hin, hs⟩
  unfold lcheck
  rw [if_neg (by omega), if_neg (by omega), if_neg (by rw [(any_out l).2 hin]; decide), if_pos]
  rw [allB_iff]
  intro k hk
  unfold stepF
  simpa using hs k (by omega)
theorem pcheck_iff (l : List Spot) : pcheck l = 0 ↔ 3 ≤ l.length ∧ l.length ≤ 40 ∧ AllB l ∧ simpleB l = true := by
 unfold pcheck
 constructor
 ·intro h
  split at h
  ·cases h
  split at h
  ·cases h
  split at h
  ·cases h
  split at h
  ·rename_i h1 h2 h3 h4
   exact ⟨by omega, by omega, (any_out l).1 (by simpa using h3), h4⟩
  ·cases h
 ·rintro ⟨h2, h40, hin, hs⟩
  rw [if_neg (by omega), if_neg (by omega), if_neg (by rw [(any_out l).2 hin]; decide), if_pos hs]
/- turned lines -/
theorem turnL_get {f : Bool} {q : Int} {l : List Spot} {k : Nat} (h : k < l.length) : gS (turnL f q l) k = applyT f q (gS l (if f = true then l.length - 1 - k else k)) := by
 unfold turnL
 split
 ·rename_i hf
  rw [gS_eq (by simpa using h), List.getElem_reverse]
  simp only [List.getElem_map, List.length_map]
  rw [← gS_eq]
 ·rw [gS_eq (by simpa using h)]
  simp only [List.getElem_map]
  rw [← gS_eq]
theorem turnL_all {f : Bool} {q : Int} {l : List Spot} (hw : WfL l) : AllB (turnL f q l) ↔ AllB l := by
 constructor
 ·intro h k hk
  have := h (if f = true then l.length - 1 - k else k) (by rw [turnL_len]; split <;> omega)
  rw [turnL_get (by split <;> omega)] at this
  have e : (if f = true then l.length - 1 - (if f = true then l.length - 1 - k else k) else (if f = true then l.length - 1 - k else k)) = k := by split <;> omega
  rw [e] at this
  exact ((wfS_apply (hw k hk) f q).2).1 this
 ·intro h k hk
  rw [turnL_len] at hk
  rw [turnL_get hk]
  exact (wfS_apply (hw _ (by split <;> omega)) f q).2.2 (h _ (by split <;> omega))
theorem turnL_lcheck {f : Bool} {q : Int} {l : List Spot} (hw : WfL l) : lcheck (turnL f q l) = 0 ↔ lcheck l = 0 := by
 rw [lcheck_iff, lcheck_iff, turnL_len, turnL_all hw]
 have key : AllB l → ((∀ k, k + 1 < l.length → gS (turnL f q l) k ≠ gS (turnL f q l) (k + 1)) ↔ ∀ k, k + 1 < l.length → gS l k ≠ gS l (k + 1)) := fun hB => by
  cases f
  ·constructor
   ·intro h k hk he
    apply h k hk
    rw [turnL_get (by omega), turnL_get (by omega)]
    simp [he]
   ·intro h k hk he
    rw [turnL_get (by omega), turnL_get (by omega)] at he
    exact h k hk ((pres_apply false q).inj _ _ he (hB _ (by omega)) (hB _ (by omega)))
  ·constructor
   ·intro h k hk he
    apply h (l.length - 1 - (k + 1)) (by omega)
    rw [turnL_get (by omega), turnL_get (by omega)]
    simp only [if_true]
    rw [show l.length - 1 - (l.length - 1 - (k + 1)) = k + 1 from by omega, show l.length - 1 - (l.length - 1 - (k + 1) + 1) = k from by omega, he]
   ·intro h k hk he
    rw [turnL_get (by omega), turnL_get (by omega)] at he
    simp only [if_true] at he
    have := (pres_apply true q).inj _ _ he (hB _ (by omega)) (hB _ (by omega))
    refine h (l.length - 1 - (k + 1)) (by omega) ?_
    rw [show l.length - 1 - (k + 1) + 1 = l.length - 1 - k from by omega]
    exact this.symm
 constructor
 ·rintro ⟨a, b, c, d⟩; exact ⟨a, b, c, (key c).1 d⟩
 ·rintro ⟨a, b, c, d⟩; exact ⟨a, b, c, (key c).2 d⟩
/- where an edge's vertices lie among all -/
def offE (es : List Edge) : Nat → Nat
 |0 => 0
 |j + 1 => offE es j + ((gE es j).2.length - 1)
theorem verts_take_len (es : List Edge) : ∀ j, j ≤ es.length → (verts (es.take j)).length = offE es j
 |0, _ => by simp [verts, offE]
 |j + 1, h => by rw [verts_succ (by omega), List.length_append, verts_take_len es j (by omega), List.length_dropLast]; rfl
theorem verts_len' (es : List Edge) : (verts es).length = offE es es.length := by
 have := verts_take_len es es.length (Nat.le_refl _)
 rwa [List.take_length] at this
theorem offE_mono (es : List Edge) {i j : Nat} (h : i ≤ j) : offE es i ≤ offE es j := by
 induction j with
 |zero =>
  have : i = 0 := by omega
  subst this; exact Nat.le_refl _
 |succ j ih =>
  rcases Nat.lt_or_ge i (j + 1) with h' | h'
  ·have := ih (by omega); simp only [offE]; omega
  ·have : i = j + 1 := by omega
   subst this; exact Nat.le_refl _
theorem verts_get {es : List Edge} {j k : Nat} (hj : j < es.length) (hk : k < (gE es j).2.length - 1) : gS (verts es) (offE es j + k) = gS (gE es j).2 k := by
 have e : verts es = verts (es.take (j + 1)) ++ verts (es.drop (j + 1)) := by
  conv => lhs; rw [← List.take_append_drop (j + 1) es]
  unfold verts; rw [List.flatMap_append]
 have hl1 := verts_take_len es j (by omega)
 rw [e, verts_succ hj]
 unfold gS
 rw [List.getD_eq_getElem?_getD, List.getD_eq_getElem?_getD, List.append_assoc, List.getElem?_append_right (by omega), hl1, Nat.add_sub_cancel_left, List.getElem?_append_left (by rw [List.length_dropLast]; exact hk), List.getElem?_dropLast, if_pos hk]
theorem off_find (es : List Edge) : ∀ n x, x < offE es n → ∃ j k, j < n ∧ k < (gE es j).2.length - 1 ∧ x = offE es j + k
 |0, x, h => absurd h (Nat.not_lt_zero _)
 |n + 1, x, h => by
  rcases Nat.lt_or_ge x (offE es n) with h' | h'
  ·obtain ⟨j, k, hj, hk, e⟩ := off_find es n x h'
   exact ⟨j, k, by omega, hk, e⟩
  ·simp only [offE] at h
   exact ⟨n, x - offE es n, by omega, by omega, by omega⟩
/- lines that are polylines and joined -/
structure Joined (es : List Edge) : Prop where
 n0 : 0 < es.length
 ln : ∀ i, i < es.length → 2 ≤ (gE es i).2.length
 jn : ∀ i, i < es.length → gS (gE es i).2 ((gE es i).2.length - 1) = gS (gE es ((i + 1) % es.length)).2 0
theorem Joined.pos {es : List Edge} (h : Joined es) : 0 < (verts es).length := by
 rw [verts_len']
 have h1 := offE_mono es (show 1 ≤ es.length from h.n0)
 have h2 := h.ln 0 h.n0
 simp only [offE] at h1; omega
theorem Joined.at {es : List Edge} (h : Joined es) {j k : Nat} (hj : j < es.length) (hk : k ≤ (gE es j).2.length - 1) : cy (verts es) ((offE es j + k : Nat) : Int) = gS (gE es j).2 k := by
 have hl := verts_len' es
 rcases Nat.lt_or_ge k ((gE es j).2.length - 1) with hk' | hk'
 ·rw [cy_nat, verts_get hj hk']
  rw [hl]
  have := offE_mono es (show j + 1 ≤ es.length from hj)
  simp only [offE] at this; omega
 ·obtain rfl : k = (gE es j).2.length - 1 := by omega
  rw [h.jn j hj]
  have hz : ∀ i, i < es.length → cy (verts es) ((offE es i : Nat) : Int) = gS (gE es i).2 0 := fun i hi => by
   have h2 := h.ln i hi
   rw [cy_nat]
   ·have := verts_get hi (k := 0) (by omega)
    simpa using this
   ·rw [hl]
    have := offE_mono es (show i + 1 ≤ es.length from hi)
    simp only [offE] at this; omega
  rcases Nat.lt_or_ge (j + 1) es.length with hj' | hj'
  ·rw [Nat.mod_eq_of_lt hj', ← hz _ hj']; rfl
  ·have : j + 1 = es.length := by omega
   rw [this, Nat.mod_self, ← hz 0 h.n0]
   refine cy_mod ?_
   have e : offE es j + ((gE es j).2.length - 1) = (verts es).length := by rw [hl, ← this]; rfl
   rw [e]; simp [offE]
end Go.Proofs.YtfegbaokcbjllaaGreat
