/- Plain geometry: the tests on polygons under a quarter turn, a mirror image, a reversal. No program in sight. -/
import Derived.Test.YtnfchkkokgmliaaKApplyD
import Derived.Test.YtnfchkkokgmliaaKPlainA
/- Plain: a turned line, a turned outline. No program in sight. -/
namespace Go.Proofs.Ytnfchkkokgmliaa
open Go.RowKit
def turnL (f : Bool) (q : Int) (l : List Spot) : List Spot := if f = true then (l.map (applyT f q)).reverse else l.map (applyT f q)
def turnI (f : Bool) (n i : Nat) : Nat := if f = true then (n - i) % n else i
def turnAt (f : Bool) (q : Int) (es : List Edge) (i : Nat) : Edge := ((gE es (turnI f es.length i)).1, turnL f q (gE es (turnI f es.length i)).2)
def turnE (f : Bool) (q : Int) (es : List Edge) : List Edge := (List.range es.length).map (turnAt f q es)
theorem turnE_len (f : Bool) (q : Int) (es : List Edge) : (turnE f q es).length = es.length := by simp [turnE]
theorem turnE_take {f : Bool} {q : Int} {es : List Edge} {k : Nat} (h : k < es.length) : (turnE f q es).take (k + 1) = (turnE f q es).take k ++ [turnAt f q es k] := by
  rw [take_succ _ _ (by rw [turnE_len]; exact h)]; simp [turnE]
theorem turnL_len (f : Bool) (q : Int) (l : List Spot) : (turnL f q l).length = l.length := by unfold turnL; split <;> simp
theorem map_take_succ {f : Bool} {q : Int} {l : List Spot} {k : Nat} (h : k < l.length) : (l.take (k + 1)).map (applyT f q) = (l.take k).map (applyT f q) ++ [applyT f q (gS l k)] := by
  rw [take_succ _ _ h, gS_eq h, List.map_append]; rfl
end Go.Proofs.Ytnfchkkokgmliaa
namespace Go.Proofs.Ytnfchkkokgmliaa
open Go.RowKit
/- exact forms within the grid -/
def crossX (a b c : Spot) : Int := (b.1 - a.1) * (c.2 - a.2) - (b.2 - a.2) * (c.1 - a.1)
def dotX (a b c : Spot) : Int := (a.1 - b.1) * (c.1 - b.1) + (a.2 - b.2) * (c.2 - b.2)
theorem mul_bd2 {x y : Int} (h0 : -2097152 ≤ x) (h1 : x ≤ 2097152) (h2 : -2097152 ≤ y) (h3 : y ≤ 2097152) : -4398046511104 ≤ x * y ∧ x * y ≤ 4398046511104 := by
  rcases Int.le_total 0 x with h | h
  · have a1 := Int.mul_le_mul_of_nonneg_left h3 h
    have a2 := Int.mul_le_mul_of_nonneg_left h2 h
    omega
  · have a1 := Int.mul_le_mul_of_nonpos_left h h3
    have a2 := Int.mul_le_mul_of_nonpos_left h h2
    omega
theorem cross_eq {a b c : Spot} (ha : inB a) (hb : inB b) (hc : inB c) : cross a b c = crossX a b c := by
  obtain ⟨a1, a2, a3, a4⟩ := ha; obtain ⟨b1, b2, b3, b4⟩ := hb; obtain ⟨c1, c2, c3, c4⟩ := hc
  unfold cross crossX
  have e1 := mul_bd2 (x := b.1 - a.1) (y := c.2 - a.2) (by omega) (by omega) (by omega) (by omega)
  have e2 := mul_bd2 (x := b.2 - a.2) (y := c.1 - a.1) (by omega) (by omega) (by omega) (by omega)
  rw [w64 (x := b.1 - a.1) (by omega) (by omega), w64 (x := c.2 - a.2) (by omega) (by omega), w64 (x := b.2 - a.2) (by omega) (by omega), w64 (x := c.1 - a.1) (by omega) (by omega),
    w64 (x := (b.1 - a.1) * (c.2 - a.2)) (by omega) (by omega), w64 (x := (b.2 - a.2) * (c.1 - a.1)) (by omega) (by omega), w64 (by omega) (by omega)]
theorem fold_eq {a b c : Spot} (ha : inB a) (hb : inB b) (hc : inB c) : foldB a b c = (crossX a b c == 0 && decide (0 < dotX a b c)) := by
  unfold foldB
  rw [cross_eq ha hb hc]
  obtain ⟨a1, a2, a3, a4⟩ := ha; obtain ⟨b1, b2, b3, b4⟩ := hb; obtain ⟨c1, c2, c3, c4⟩ := hc
  have e1 := mul_bd2 (x := a.1 - b.1) (y := c.1 - b.1) (by omega) (by omega) (by omega) (by omega)
  have e2 := mul_bd2 (x := a.2 - b.2) (y := c.2 - b.2) (by omega) (by omega) (by omega) (by omega)
  rw [w64 (x := a.1 - b.1) (by omega) (by omega), w64 (x := c.1 - b.1) (by omega) (by omega), w64 (x := a.2 - b.2) (by omega) (by omega), w64 (x := c.2 - b.2) (by omega) (by omega),
    w64 (x := (a.1 - b.1) * (c.1 - b.1)) (by omega) (by omega), w64 (x := (a.2 - b.2) * (c.2 - b.2)) (by omega) (by omega), w64 (by omega) (by omega)]
  rfl
def boxX (a b p : Spot) : Prop := min a.1 b.1 ≤ p.1 ∧ p.1 ≤ max a.1 b.1 ∧ min a.2 b.2 ≤ p.2 ∧ p.2 ≤ max a.2 b.2
def onX (a b p : Spot) : Prop := crossX a b p = 0 ∧ boxX a b p
theorem on_iff {a b p : Spot} (ha : inB a) (hb : inB b) (hp : inB p) : onB a b p = true ↔ onX a b p := by
  unfold onB onX boxX
  rw [cross_eq ha hb hp]
  simp
def oppX (x y : Int) : Prop := (x < 0 ∧ 0 < y) ∨ (0 < x ∧ y < 0)
theorem part_iff {a b c d : Spot} (ha : inB a) (hb : inB b) (hc : inB c) (hd : inB d) : partB a b c d = true ↔ oppX (crossX a b c) (crossX a b d) := by
  unfold partB oppX
  rw [cross_eq ha hb hc, cross_eq ha hb hd]
  generalize crossX a b c = x
  generalize crossX a b d = y
  simp only [decide_eq_true_eq]
  have cn : ∀ z : Int, z < 0 → cmpI z 0 = -1 := fun z h => by unfold cmpI; rw [if_pos h]
  have cz : cmpI 0 0 = 0 := by decide
  have cp : ∀ z : Int, 0 < z → cmpI z 0 = 1 := fun z h => by unfold cmpI; rw [if_neg (by omega), if_pos h]
  rcases Int.lt_trichotomy x 0 with h | h | h <;> rcases Int.lt_trichotomy y 0 with h' | h' | h'
  · rw [cn x h, cn y h', w64 (by omega) (by omega)]; omega
  · subst h'; rw [cn x h, cz, w64 (by omega) (by omega)]; omega
  · rw [cn x h, cp y h', w64 (by omega) (by omega)]; omega
  · subst h; rw [cz, cn y h', w64 (by omega) (by omega)]; omega
  · subst h; subst h'; rw [cz, w64 (by omega) (by omega)]; omega
  · subst h; rw [cz, cp y h', w64 (by omega) (by omega)]; omega
  · rw [cp x h, cn y h', w64 (by omega) (by omega)]; omega
  · subst h'; rw [cp x h, cz, w64 (by omega) (by omega)]; omega
  · rw [cp x h, cp y h', w64 (by omega) (by omega)]; omega
/- symmetries of the tests -/
theorem crossX_swap (a b c : Spot) : crossX b a c = - crossX a b c := by
  unfold crossX; simp only [Int.sub_mul, Int.mul_sub]; rw [Int.mul_comm b.1 c.2, Int.mul_comm b.1 a.2, Int.mul_comm a.1 c.2, Int.mul_comm a.1 b.2, Int.mul_comm b.1 b.2, Int.mul_comm a.1 a.2, Int.mul_comm b.2 c.1, Int.mul_comm a.2 c.1]; omega
theorem crossX_rev (a b c : Spot) : crossX c b a = - crossX a b c := by
  unfold crossX; simp only [Int.sub_mul, Int.mul_sub]; rw [Int.mul_comm b.1 a.2, Int.mul_comm b.1 c.2, Int.mul_comm c.1 a.2, Int.mul_comm c.1 c.2, Int.mul_comm b.2 a.1, Int.mul_comm b.2 c.1, Int.mul_comm c.2 a.1, Int.mul_comm a.1 a.2]; omega
theorem dotX_rev (a b c : Spot) : dotX c b a = dotX a b c := by unfold dotX; rw [Int.mul_comm (c.1 - b.1), Int.mul_comm (c.2 - b.2)]
theorem onX_swap (a b p : Spot) : onX b a p ↔ onX a b p := by
  unfold onX boxX; rw [crossX_swap]; omega
theorem oppX_neg (x y : Int) : oppX (-x) (-y) ↔ oppX x y := by unfold oppX; omega
theorem oppX_comm (x y : Int) : oppX y x ↔ oppX x y := by unfold oppX; omega
def meetX (a b c d : Spot) : Prop := onX a b c ∨ onX a b d ∨ onX c d a ∨ onX c d b ∨ (oppX (crossX a b c) (crossX a b d) ∧ oppX (crossX c d a) (crossX c d b))
theorem meet_iff {a b c d : Spot} (ha : inB a) (hb : inB b) (hc : inB c) (hd : inB d) : meetB a b c d = true ↔ meetX a b c d := by
  unfold meetB meetX
  simp only [Bool.or_eq_true, Bool.and_eq_true, on_iff ha hb hc, on_iff ha hb hd, on_iff hc hd ha, on_iff hc hd hb, part_iff ha hb hc hd, part_iff hc hd ha hb]
theorem meetX_comm (a b c d : Spot) : meetX c d a b ↔ meetX a b c d := by
  unfold meetX
  constructor
  · rintro (h | h | h | h | ⟨h, h'⟩)
    · exact .inr (.inr (.inl h))
    · exact .inr (.inr (.inr (.inl h)))
    · exact .inl h
    · exact .inr (.inl h)
    · exact .inr (.inr (.inr (.inr ⟨h', h⟩)))
  · rintro (h | h | h | h | ⟨h, h'⟩)
    · exact .inr (.inr (.inl h))
    · exact .inr (.inr (.inr (.inl h)))
    · exact .inl h
    · exact .inr (.inl h)
    · exact .inr (.inr (.inr (.inr ⟨h', h⟩)))
theorem meetX_rev (a b c d : Spot) : meetX b a d c ↔ meetX a b c d := by
  unfold meetX
  rw [onX_swap a b d, onX_swap a b c, onX_swap c d b, onX_swap c d a, crossX_swap a b d, crossX_swap a b c, crossX_swap c d b, crossX_swap c d a, oppX_neg, oppX_neg, oppX_comm (crossX a b c), oppX_comm (crossX c d a)]
  constructor
  · rintro (h | h | h | h | h)
    · exact .inr (.inl h)
    · exact .inl h
    · exact .inr (.inr (.inr (.inl h)))
    · exact .inr (.inr (.inl h))
    · exact .inr (.inr (.inr (.inr h)))
  · rintro (h | h | h | h | h)
    · exact .inr (.inl h)
    · exact .inl h
    · exact .inr (.inr (.inr (.inl h)))
    · exact .inr (.inr (.inl h))
    · exact .inr (.inr (.inr (.inr h)))
/- what a map does that keeps all tests -/
structure Pres (T : Spot → Spot) (e : Int) : Prop where
  e1 : e = 1 ∨ e = -1
  b : ∀ s, inB s → inB (T s)
  inj : ∀ s t, T s = T t → inB s → inB t → s = t
  cr : ∀ a b c, inB a → inB b → inB c → crossX (T a) (T b) (T c) = e * crossX a b c
  dt : ∀ a b c, inB a → inB b → inB c → dotX (T a) (T b) (T c) = dotX a b c
  bx : ∀ a b p, inB a → inB b → inB p → (boxX (T a) (T b) (T p) ↔ boxX a b p)
theorem Pres.cr0 {T : Spot → Spot} {e : Int} (h : Pres T e) {a b c : Spot} (ha : inB a) (hb : inB b) (hc : inB c) : crossX (T a) (T b) (T c) = 0 ↔ crossX a b c = 0 := by
  rw [h.cr a b c ha hb hc]; rcases h.e1 with h | h <;> subst h <;> omega
theorem Pres.on {T : Spot → Spot} {e : Int} (h : Pres T e) {a b c : Spot} (ha : inB a) (hb : inB b) (hc : inB c) : onX (T a) (T b) (T c) ↔ onX a b c := by
  unfold onX; rw [h.cr0 ha hb hc, h.bx a b c ha hb hc]
theorem Pres.opp {T : Spot → Spot} {e : Int} (h : Pres T e) {a b c d : Spot} (ha : inB a) (hb : inB b) (hc : inB c) (hd : inB d) : oppX (crossX (T a) (T b) (T c)) (crossX (T a) (T b) (T d)) ↔ oppX (crossX a b c) (crossX a b d) := by
  rw [h.cr a b c ha hb hc, h.cr a b d ha hb hd]
  rcases h.e1 with h | h <;> subst h
  · simp
  · rw [Int.neg_one_mul, Int.neg_one_mul, oppX_neg]
theorem Pres.meet {T : Spot → Spot} {e : Int} (h : Pres T e) {a b c d : Spot} (ha : inB a) (hb : inB b) (hc : inB c) (hd : inB d) : meetB (T a) (T b) (T c) (T d) = meetB a b c d := by
  rw [Bool.eq_iff_iff, meet_iff (h.b a ha) (h.b b hb) (h.b c hc) (h.b d hd), meet_iff ha hb hc hd]
  unfold meetX
  rw [h.on ha hb hc, h.on ha hb hd, h.on hc hd ha, h.on hc hd hb, h.opp ha hb hc hd, h.opp hc hd ha hb]
theorem Pres.fold {T : Spot → Spot} {e : Int} (h : Pres T e) {a b c : Spot} (ha : inB a) (hb : inB b) (hc : inB c) : foldB (T a) (T b) (T c) = foldB a b c := by
  rw [fold_eq (h.b a ha) (h.b b hb) (h.b c hc), fold_eq ha hb hc, h.dt a b c ha hb hc]
  congr 1
  rw [Bool.eq_iff_iff]; simp [h.cr0 ha hb hc]
theorem meetB_comm {a b c d : Spot} (ha : inB a) (hb : inB b) (hc : inB c) (hd : inB d) : meetB c d a b = meetB a b c d := by
  rw [Bool.eq_iff_iff, meet_iff hc hd ha hb, meet_iff ha hb hc hd, meetX_comm]
theorem meetB_rev {a b c d : Spot} (ha : inB a) (hb : inB b) (hc : inB c) (hd : inB d) : meetB b a d c = meetB a b c d := by
  rw [Bool.eq_iff_iff, meet_iff hb ha hd hc, meet_iff ha hb hc hd, meetX_rev]
theorem foldB_rev {a b c : Spot} (ha : inB a) (hb : inB b) (hc : inB c) : foldB c b a = foldB a b c := by
  rw [fold_eq hc hb ha, fold_eq ha hb hc, dotX_rev, crossX_rev]
  congr 1
  rw [Bool.eq_iff_iff]; simp
theorem Pres.id : Pres (fun s => s) 1 := ⟨.inl rfl, fun _ h => h, fun _ _ h _ _ => h, fun _ _ _ _ _ _ => by simp, fun _ _ _ _ _ _ => rfl, fun _ _ _ _ _ _ => Iff.rfl⟩
theorem Pres.comp {T U : Spot → Spot} {e f : Int} (h : Pres T e) (k : Pres U f) : Pres (fun s => U (T s)) (f * e) where
  e1 := by rcases h.e1 with h | h <;> rcases k.e1 with k | k <;> subst h <;> subst k <;> simp
  b := fun s hs => k.b _ (h.b s hs)
  inj := fun s t he hs ht => h.inj s t (k.inj _ _ he (h.b s hs) (h.b t ht)) hs ht
  cr := fun a b c ha hb hc => by rw [k.cr _ _ _ (h.b a ha) (h.b b hb) (h.b c hc), h.cr a b c ha hb hc, Int.mul_assoc]
  dt := fun a b c ha hb hc => by rw [k.dt _ _ _ (h.b a ha) (h.b b hb) (h.b c hc), h.dt a b c ha hb hc]
  bx := fun a b c ha hb hc => (k.bx _ _ _ (h.b a ha) (h.b b hb) (h.b c hc)).trans (h.bx a b c ha hb hc)
theorem quart_eq {s : Spot} (h : inB s) : quart s = (-s.2, s.1) := by
  obtain ⟨h1, h2, h3, h4⟩ := h
  unfold quart; rw [w64 (by omega) (by omega)]
theorem flip_eq {s : Spot} (h : inB s) : flipS true s = (-s.1, s.2) := by
  obtain ⟨h1, h2, h3, h4⟩ := h
  unfold flipS; rw [if_pos rfl, w64 (by omega) (by omega)]
theorem pres_quart : Pres quart 1 where
  e1 := .inl rfl
  b := fun s h => by rw [quart_eq h]; obtain ⟨h1, h2, h3, h4⟩ := h; exact ⟨by simp only; omega, by simp only; omega, by simp only; omega, by simp only; omega⟩
  inj := fun s t he hs ht => by
    rw [quart_eq hs, quart_eq ht] at he
    injection he with e1 e2
    exact Prod.ext (by omega) (by omega)
  cr := fun a b c ha hb hc => by
    rw [quart_eq ha, quart_eq hb, quart_eq hc]; unfold crossX
    simp only [Int.one_mul]
    rw [show (-b.2 - -a.2) = -(b.2 - a.2) from by omega, show (-c.2 - -a.2) = -(c.2 - a.2) from by omega, Int.neg_mul, Int.mul_neg]; omega
  dt := fun a b c ha hb hc => by
    rw [quart_eq ha, quart_eq hb, quart_eq hc]; unfold dotX
    simp only
    rw [show (-a.2 - -b.2) = -(a.2 - b.2) from by omega, show (-c.2 - -b.2) = -(c.2 - b.2) from by omega, Int.neg_mul_neg]; omega
  bx := fun a b c ha hb hc => by
    rw [quart_eq ha, quart_eq hb, quart_eq hc]; unfold boxX
    simp only; omega
theorem pres_flip : Pres (flipS true) (-1) where
  e1 := .inr rfl
  b := fun s h => by rw [flip_eq h]; obtain ⟨h1, h2, h3, h4⟩ := h; exact ⟨by simp only; omega, by simp only; omega, by simp only; omega, by simp only; omega⟩
  inj := fun s t he hs ht => by
    rw [flip_eq hs, flip_eq ht] at he
    injection he with e1 e2
    exact Prod.ext (by omega) (by omega)
  cr := fun a b c ha hb hc => by
    rw [flip_eq ha, flip_eq hb, flip_eq hc]; unfold crossX
    simp only
    rw [show (-b.1 - -a.1) = -(b.1 - a.1) from by omega, show (-c.1 - -a.1) = -(c.1 - a.1) from by omega, Int.neg_mul, Int.mul_neg]; omega
  dt := fun a b c ha hb hc => by
    rw [flip_eq ha, flip_eq hb, flip_eq hc]; unfold dotX
    simp only
    rw [show (-a.1 - -b.1) = -(a.1 - b.1) from by omega, show (-c.1 - -b.1) = -(c.1 - b.1) from by omega, Int.neg_mul_neg]
  bx := fun a b c ha hb hc => by
    rw [flip_eq ha, flip_eq hb, flip_eq hc]; unfold boxX
    simp only; omega
def sgn (f : Bool) : Int := if f = true then -1 else 1
theorem pres_quarts : ∀ n, Pres (quarts n) 1
  | 0 => Pres.id
  | n + 1 => by have h := (pres_quarts n).comp pres_quart; rw [Int.mul_one] at h; exact h
theorem pres_apply (f : Bool) (q : Int) : Pres (applyT f q) (sgn f) := by
  cases f
  · have h := pres_quarts (q % 4).toNat
    exact h
  · have h := pres_flip.comp (pres_quarts (q % 4).toNat)
    rw [Int.one_mul] at h
    exact h
end Go.Proofs.Ytnfchkkokgmliaa
