/- plain: a row of limbs moved to the left and to the right; the loop of a long division. No program in sight. -/
import Derived.Test.YtfegbaokcbjllaaGreatKInPl
/- natural numbers as rows of limbs of 32 bits, plain. No program in sight. -/
namespace Go.Proofs.YtfegbaokcbjllaaGreat
open Go.RowKit
def natL : List Nat → Nat
 |[] => 0
 |x :: l => x + 4294967296 * natL l
def LimOk (l : List Nat) : Prop := ∀ x, x ∈ l → x < 4294967296
theorem natL_append (a b : List Nat) : natL (a ++ b) = natL a + 4294967296 ^ a.length * natL b := by
 induction a with
 |nil => simp [natL]
 |cons x a ih =>
  simp only [List.cons_append, natL, ih, List.length_cons, Nat.pow_succ]
  rw [Nat.mul_add, ← Nat.mul_assoc, Nat.mul_comm (4294967296 ^ a.length) 4294967296, Nat.add_assoc]
theorem natL_one (x : Nat) : natL [x] = x := by simp [natL]
theorem natL_snoc (l : List Nat) (x : Nat) : natL (l ++ [x]) = natL l + 4294967296 ^ l.length * x := by rw [natL_append, natL_one]
theorem natL_lt {l : List Nat} (h : LimOk l) : natL l < 4294967296 ^ l.length := by
 induction l with
 |nil => simp [natL]
 |cons x l ih =>
  have h1 := h x (by simp)
  have h2 := ih (fun y hy => h y (by simp [hy]))
  simp only [natL, List.length_cons, Nat.pow_succ]
  have : natL l + 1 ≤ 4294967296 ^ l.length := h2
  have := Nat.mul_le_mul_left 4294967296 this
  rw [Nat.mul_comm (4294967296 ^ l.length)]
  omega
def limbs (n : Nat) : List Nat := if n = 0 then [] else n % 4294967296 :: limbs (n / 4294967296)
termination_by n
decreasing_by omega
theorem limbs_zero : limbs 0 = [] := by rw [limbs]; simp
theorem limbs_pos {n : Nat} (h : 0 < n) : limbs n = n % 4294967296 :: limbs (n / 4294967296) := by rw [limbs, if_neg (by omega)]
theorem natL_limbs (n : Nat) : natL (limbs n) = n := by
 induction n using Nat.strongRecOn with
 |ind n ih =>
  rcases Nat.eq_zero_or_pos n with h | h
  ·subst h; rw [limbs_zero]; rfl
  ·rw [limbs_pos h, natL, ih _ (by omega)]; omega
theorem limbs_ok (n : Nat) : LimOk (limbs n) := by
 induction n using Nat.strongRecOn with
 |ind n ih =>
  rcases Nat.eq_zero_or_pos n with h | h
  ·subst h; rw [limbs_zero]; intro x hx; simp at hx
  ·rw [limbs_pos h]
   intro x hx
   rcases List.mem_cons.1 hx with rfl | hx
   ·omega
   ·exact ih _ (by omega) x hx
theorem limbs_nil {n : Nat} (h : limbs n = []) : n = 0 := by have := natL_limbs n; rw [h] at this; exact this.symm
theorem limbs_small {n : Nat} (h0 : 0 < n) (h1 : n < 4294967296) : limbs n = [n] := by
 rw [limbs_pos h0, Nat.mod_eq_of_lt h1, Nat.div_eq_of_lt h1, limbs_zero]
/- trimmed rows -/
def Trim (l : List Nat) : Prop := ∀ h : l ≠ [], l.getLast h ≠ 0
theorem limbs_trim (n : Nat) : Trim (limbs n) := by
 induction n using Nat.strongRecOn with
 |ind n ih =>
  intro hne
  rcases Nat.eq_zero_or_pos n with h | h
  ·subst h; exact absurd limbs_zero hne
  ·have e := limbs_pos h
   by_cases h1 : limbs (n / 4294967296) = []
   ·have h2 := limbs_nil h1
    have : limbs n = [n % 4294967296] := by rw [e, h1]
    simp only [this, List.getLast_singleton]
    omega
   ·have h3 := ih _ (by omega) h1
    have : (limbs n).getLast hne = (limbs (n / 4294967296)).getLast h1 := by simp only [e]; exact List.getLast_cons h1
    rw [this]; exact h3
theorem natL_pos {l : List Nat} (ht : Trim l) (hn : l ≠ []) : 0 < natL l := by
 have h := ht hn
 rw [← List.dropLast_concat_getLast hn, natL_snoc]
 have h1 : 0 < 4294967296 ^ l.dropLast.length := Nat.pow_pos (by omega)
 have h2 : 0 < l.getLast hn := by omega
 have := Nat.mul_pos h1 h2
 omega
theorem limbs_natL : ∀ {l : List Nat}, LimOk l → Trim l → limbs (natL l) = l
 |[], _, _ => limbs_zero
 |x :: l, hl, ht => by
  have h1 := natL_pos ht (by simp)
  rw [limbs_pos h1]
  have hx := hl x (by simp)
  have ht' : Trim l := fun hn => by
   have := ht (by simp)
   rwa [List.getLast_cons hn] at this
  rw [show natL (x :: l) % 4294967296 = x by simp only [natL]; omega, show natL (x :: l) / 4294967296 = natL l by simp only [natL]; omega, limbs_natL (fun y hy => hl y (by simp [hy])) ht']
/- high zeros struck -/
theorem natL_zeros (l : List Nat) (k : Nat) (h : ∀ j, k ≤ j → j < l.length → l.getD j 0 = 0) : natL (l.take k) = natL l := by
 induction l generalizing k with
 |nil => simp
 |cons x l ih =>
  cases k with
  |zero =>
   have h0 : x = 0 := by have := h 0 (by omega) (by simp); simpa using this
   have h1 := ih 0 (fun j hj hjl => by have := h (j + 1) (by omega) (by simp; omega); simpa using this)
   simp only [List.take_zero] at h1 ⊢
   simp only [natL] at h1 ⊢
   omega
  |succ k =>
   have h1 := ih k (fun j hj hjl => by have := h (j + 1) (by omega) (by simp; omega); simpa using this)
   simp only [List.take_succ_cons, natL, h1]
theorem trim_take {l : List Nat} {k : Nat} (hl : LimOk l) (hk : k ≤ l.length) (h : ∀ j, k ≤ j → j < l.length → l.getD j 0 = 0) (h0 : k = 0 ∨ l.getD (k - 1) 0 ≠ 0) : l.take k = limbs (natL l) := by
 have hok : LimOk (l.take k) := fun x hx => hl x (List.mem_of_mem_take hx)
 have ht : Trim (l.take k) := fun hn => by
  have hk0 : 0 < k := by
   rcases Nat.eq_zero_or_pos k with e | e
   ·subst e; simp at hn
   ·exact e
  have hlen : (l.take k).length = k := by rw [List.length_take]; omega
  rw [List.getLast_eq_getElem]
  have h1 : l.getD (k - 1) 0 ≠ 0 := by rcases h0 with e | e; omega; exact e
  have h2 : k - 1 < l.length := by omega
  simp only [List.getD_eq_getElem?_getD, List.getElem?_eq_getElem h2, Option.getD_some] at h1
  simp only [List.getElem_take, hlen]
  exact h1
 rw [← natL_zeros l k h, limbs_natL hok ht]
def ucells (l : List Nat) : List Value := l.map fun (x : Nat) => Value.int .u32 (x : Int)
def gN (l : List Nat) (k : Nat) : Nat := l.getD k 0
theorem gN_eq {l : List Nat} {k : Nat} (h : k < l.length) : gN l k = l[k] := by simp [gN, h]
def LimsAt (w : World) (A : Option Addr) (l : List Nat) : Prop := ∀ k, k < l.length → ∃ b off, A = some ⟨b, off, none⟩ ∧ w.cell? ⟨b, off + k, none⟩ = some (.int .u32 (gN l k : Int))
theorem LimsAt.ext {w w' : World} {A : Option Addr} {l : List Nat} (h : LimsAt w A l) (he : Ext w w') : LimsAt w' A l := fun k hk => by
 obtain ⟨b, off, e, h0⟩ := h k hk
 exact ⟨b, off, e, he.cell h0⟩
theorem LimsAt.take {w : World} {A : Option Addr} {l : List Nat} (h : LimsAt w A l) (k : Nat) : LimsAt w A (l.take k) := fun j hj => by
 rw [List.length_take] at hj
 obtain ⟨b, off, e, h0⟩ := h j (by omega)
 refine ⟨b, off, e, ?_⟩
 rw [gN_eq (show j < (l.take k).length by rw [List.length_take]; omega)]
 rw [gN_eq (show j < l.length by omega)] at h0
 simpa using h0
theorem ucells_length (l : List Nat) : (ucells l).length = l.length := by simp [ucells]
theorem ucells_get {l : List Nat} {k : Nat} (hk : k < l.length) : (ucells l)[k]? = some (.int .u32 (gN l k : Int)) := by rw [gN_eq hk]; simp [ucells, hk]
theorem ucells_set (l : List Nat) (k : Nat) (x : Nat) : (ucells l).set k (.int .u32 (x : Int)) = ucells (l.set k x) := by simp [ucells, List.map_set]
theorem ucells_append (a b : List Nat) : ucells (a ++ b) = ucells a ++ ucells b := by simp [ucells]
theorem lims_blk {t : TypeId} {w : World} {g : Nat} {l : List Nat} {R : List Value} (h : Blk t w g (ucells l ++ R)) : LimsAt w (some ⟨g, 0, none⟩) l := fun k hk => by
 refine ⟨g, 0, rfl, ?_⟩
 rw [Nat.zero_add, h.cell, List.getElem?_append_left (by rw [ucells_length]; exact hk), ucells_get hk]
/- a row of limbs of the call's own -/
def OwnU (w : World) (base : Nat) (v : Value) (l : List Nat) : Prop := w.ownsRow base 192 1 v l.length (ucells l)
theorem OwnU.slice {w : World} {base : Nat} {v : Value} {l : List Nat} (h : OwnU w base v l) : ∃ A cap, v = .slice A l.length cap ∧ LimsAt w A l ∧ l.length ≤ cap ∧ cap ≤ 9223372036854775807 := by
 rcases h.2 with ⟨rfl, h0⟩ | ⟨g, cap, cur, rfl, hb, hh, hn, hm, hs, ht⟩
 ·rw [List.eq_nil_of_length_eq_zero h0]
  exact ⟨none, 0, rfl, fun _ hk => absurd hk (Nat.not_lt_zero _), Nat.le_refl _, by omega⟩
 ·refine ⟨_, cap, rfl, fun k hk => ⟨g, 0, rfl, ?_⟩, hn, hm⟩
  have := World.ownsRow.cells h (g := g) rfl k (.int .u32 (gN l k : Int)) (ucells_get hk)
  rwa [addr_add] at this
/- a number -/
def NatAt (w : World) (v : Value) (n : Nat) : Prop := ∃ A cap, v = .slice A (limbs n).length cap ∧ LimsAt w A (limbs n) ∧ (limbs n).length ≤ cap ∧ cap ≤ 9223372036854775807
theorem NatAt.ext {w w' : World} {v : Value} {n : Nat} (h : NatAt w v n) (he : Ext w w') : NatAt w' v n := by
 obtain ⟨A, cap, e, h1, h2, h3⟩ := h
 exact ⟨A, cap, e, h1.ext he, h2, h3⟩
theorem natAt_of {w : World} {A : Option Addr} {cap k : Nat} {l : List Nat} {n : Nat} (h : LimsAt w A l) (hl : l = limbs n) (hk : l.length = k) (hc : k ≤ cap) (hc' : cap ≤ 9223372036854775807) : NatAt w (.slice A k cap) n := by
 subst hl; subst hk
 exact ⟨A, cap, rfl, h, hc, hc'⟩
theorem nat_nil (w : World) : NatAt w (.slice none 0 0) 0 := ⟨none, 0, by rw [limbs_zero]; rfl, by rw [limbs_zero]; exact fun _ hk => absurd hk (Nat.not_lt_zero _), by rw [limbs_zero]; exact Nat.le_refl _, by omega⟩
def RetNt (w : World) (n : Nat) (e : Ending) (w' : World) : Prop := ∃ u, e = .returned u ∧ NatAt w' u n ∧ Ext w w'
theorem natL_take_succ {l : List Nat} {k : Nat} (h : k < l.length) : natL (l.take (k + 1)) = natL (l.take k) + 4294967296 ^ k * gN l k := by
 rw [take_succ l k h, natL_snoc, gN_eq h, List.length_take, Nat.min_eq_left (by omega)]
theorem natL_take_all {l : List Nat} {k : Nat} (h : l.length ≤ k) : natL (l.take k) = natL l := by rw [List.take_of_length_le h]
theorem gN_lt {l : List Nat} (h : LimOk l) (k : Nat) : gN l k < 4294967296 := by
 rcases Nat.lt_or_ge k l.length with hk | hk
 ·rw [gN_eq hk]; exact h _ (List.getElem_mem hk)
 ·simp [gN, hk]
theorem natL_drop {l : List Nat} {k : Nat} (h : k < l.length) : natL (l.drop k) = gN l k + 4294967296 * natL (l.drop (k + 1)) := by
 rw [List.drop_eq_getElem_cons h, natL, gN_eq h]
theorem natL_split (l : List Nat) (k : Nat) (h : k ≤ l.length) : natL l = natL (l.take k) + 4294967296 ^ k * natL (l.drop k) := by
 conv => lhs; rw [← List.take_append_drop k l]
 rw [natL_append, List.length_take, Nat.min_eq_left h]
theorem natL_take_full {l : List Nat} {k : Nat} : natL (l.take (k + 1)) = natL (l.take k) + 4294967296 ^ k * gN l k := by
 rcases Nat.lt_or_ge k l.length with h | h
 ·exact natL_take_succ h
 ·rw [natL_take_all (by omega), natL_take_all h]; simp [gN, h]
theorem limOk_snoc {l : List Nat} {x : Nat} (h : LimOk l) (hx : x < 4294967296) : LimOk (l ++ [x]) := fun y hy => by
 rcases List.mem_append.1 hy with h1 | h1
 ·exact h y h1
 ·rw [List.mem_singleton.1 h1]; exact hx
theorem limOk_set {l : List Nat} {x k : Nat} (h : LimOk l) (hx : x < 4294967296) : LimOk (l.set k x) := fun y hy => by
 rcases List.mem_or_eq_of_mem_set hy with h1 | h1
 ·exact h y h1
 ·rw [h1]; exact hx
/- one step of a sum -/
structure AddI (a b r : List Nat) (i c : Nat) : Prop where
 len : r.length = i
 ok : LimOk r
 eq : natL r + c * 4294967296 ^ i = natL (a.take i) + natL (b.take i)
 c1 : c ≤ 1
theorem AddI.zero (a b : List Nat) : AddI a b [] 0 0 := ⟨rfl, fun _ h => by simp at h, by simp [natL], by omega⟩
theorem AddI.step {a b r : List Nat} {i c : Nat} (h : AddI a b r i c) (ha : LimOk a) (hb : LimOk b) : AddI a b (r ++ [(c + gN a i + gN b i) % 4294967296]) (i + 1) ((c + gN a i + gN b i) / 4294967296) := by
 have h1 := gN_lt ha i
 have h2 := gN_lt hb i
 have h3 := h.c1
 refine ⟨by rw [List.length_append, h.len]; rfl, limOk_snoc h.ok (Nat.mod_lt _ (by omega)), ?_, by omega⟩
 rw [natL_snoc, h.len, natL_take_full, natL_take_full, Nat.pow_succ]
 have e := h.eq
 have e2 : (c + gN a i + gN b i) % 4294967296 + 4294967296 * ((c + gN a i + gN b i) / 4294967296) = c + gN a i + gN b i := Nat.mod_add_div _ _
 generalize 4294967296 ^ i = P at *
 generalize (c + gN a i + gN b i) % 4294967296 = x at *
 generalize (c + gN a i + gN b i) / 4294967296 = y at *
 have e3 : P * (x + 4294967296 * y) = P * (c + gN a i + gN b i) := by rw [e2]
 rw [Nat.mul_add, Nat.mul_add, Nat.mul_add] at e3
 have e4 : y * (P * 4294967296) = P * (4294967296 * y) := by rw [Nat.mul_comm P 4294967296, Nat.mul_left_comm, Nat.mul_comm y P, Nat.mul_left_comm]
 have e5 : c * P = P * c := Nat.mul_comm _ _
 omega
theorem AddI.done {a b r : List Nat} {c : Nat} (h : AddI a b r a.length c) (hl : b.length ≤ a.length) : natL (r ++ [c]) = natL a + natL b := by
 have e := h.eq
 rw [natL_take_all (Nat.le_refl _), natL_take_all hl] at e
 rw [natL_snoc, h.len, Nat.mul_comm]; exact e
/- one step of a difference -/
structure SubI (a b r : List Nat) (n i c : Nat) : Prop where
 len : r.length = n
 ok : LimOk r
 eq : natL (r.take i) + natL (b.take i) = natL (a.take i) + c * 4294967296 ^ i
 c1 : c ≤ 1
theorem natL_set_take {r : List Nat} {i x : Nat} (h : i < r.length) : natL ((r.set i x).take (i + 1)) = natL (r.take i) + 4294967296 ^ i * x := by
 rw [natL_take_succ (by rw [List.length_set]; exact h), List.take_set_of_le (Nat.le_refl i)]
 simp [gN, h]
theorem SubI.step {a b r : List Nat} {n i c : Nat} (h : SubI a b r n i c) (hi : i < n) (ha : LimOk a) (hb : LimOk b) :
  SubI a b (r.set i ((gN a i + 2 * 4294967296 - c - gN b i) % 4294967296)) n (i + 1) (if gN a i < c + gN b i then 1 else 0) := by
 have h1 := gN_lt ha i
 have h2 := gN_lt hb i
 have h3 := h.c1
 refine ⟨by rw [List.length_set, h.len], limOk_set h.ok (Nat.mod_lt _ (by omega)), ?_, by split <;> omega⟩
 rw [natL_set_take (by rw [h.len]; exact hi), natL_take_full, natL_take_full, Nat.pow_succ]
 have e := h.eq
 have e2 : (gN a i + 2 * 4294967296 - c - gN b i) % 4294967296 + c + gN b i = gN a i + (if gN a i < c + gN b i then 1 else 0) * 4294967296 := by
  split <;> omega
 generalize (gN a i + 2 * 4294967296 - c - gN b i) % 4294967296 = x at *
 generalize (if gN a i < c + gN b i then 1 else 0) = y at *
 generalize 4294967296 ^ i = P at *
 have e3 : P * (x + c + gN b i) = P * (gN a i + y * 4294967296) := by rw [e2]
 rw [Nat.mul_add, Nat.mul_add, Nat.mul_add] at e3
 have e4 : y * (P * 4294967296) = P * (y * 4294967296) := by rw [Nat.mul_left_comm]
 have e5 : c * P = P * c := Nat.mul_comm _ _
 omega
theorem SubI.done {a b r : List Nat} {c : Nat} (h : SubI a b r a.length a.length c) (hl : b.length ≤ a.length) (hab : natL b ≤ natL a) : natL r = natL a - natL b := by
 have e := h.eq
 have hlt := natL_lt h.ok
 rw [h.len] at hlt
 rw [natL_take_all (Nat.le_refl _), natL_take_all hl, natL_take_all (by rw [h.len]; exact Nat.le_refl _)] at e
 have hc : c = 0 := by
  rcases Nat.eq_zero_or_pos c with h0 | h0
  ·exact h0
  ·have := h.c1
   obtain rfl : c = 1 := by omega
   omega
 subst hc
 omega
/- one step of a short division, from the high end -/
structure DivI (a q : List Nat) (d i r : Nat) : Prop where
 len : q.length = a.length
 ok : LimOk q
 eq : natL (a.drop i) = natL (q.drop i) * d + r
 lt : r < d
theorem natL_set_drop {q : List Nat} {i x : Nat} (h : i < q.length) : natL ((q.set i x).drop i) = x + 4294967296 * natL (q.drop (i + 1)) := by
 rw [natL_drop (by rw [List.length_set]; exact h), List.drop_set_of_lt (by omega)]
 simp [gN, h]
theorem DivI.step {a q : List Nat} {d i r : Nat} (h : DivI a q d (i + 1) r) (hi : i < a.length) (hd : d < 4294967296) (ha : LimOk a) :
  DivI a (q.set i ((r * 4294967296 + gN a i) / d)) d i ((r * 4294967296 + gN a i) % d) := by
 have h1 := gN_lt ha i
 have h2 := h.lt
 have hd0 : 0 < d := by omega
 have hq : (r * 4294967296 + gN a i) / d < 4294967296 := by
  rw [Nat.div_lt_iff_lt_mul hd0]
  have : (r + 1) * 4294967296 ≤ d * 4294967296 := Nat.mul_le_mul_right _ h2
  rw [Nat.mul_comm 4294967296 d]
  omega
 refine ⟨by rw [List.length_set, h.len], limOk_set h.ok hq, ?_, Nat.mod_lt _ hd0⟩
 rw [natL_drop hi, h.eq, natL_set_drop (by rw [h.len]; exact hi)]
 have e := Nat.div_add_mod (r * 4294967296 + gN a i) d
 generalize (r * 4294967296 + gN a i) / d = x at *
 generalize (r * 4294967296 + gN a i) % d = y at *
 rw [Nat.add_mul, Nat.mul_assoc, Nat.mul_add]
 rw [Nat.mul_comm d x] at e
 omega
theorem DivI.done {a q : List Nat} {d r : Nat} (h : DivI a q d 0 r) : natL q = natL a / d ∧ r = natL a % d := by
 have e := h.eq
 simp only [List.drop_zero] at e
 have hd0 : 0 < d := by have := h.lt; omega
 rw [e]
 constructor
 ·rw [Nat.mul_comm, Nat.mul_add_div hd0, Nat.div_eq_of_lt h.lt]; omega
 ·rw [Nat.mul_comm, Nat.mul_add_mod, Nat.mod_eq_of_lt h.lt]
/- products -/
theorem natL_set {r : List Nat} {j x : Nat} (h : j < r.length) : natL (r.set j x) + 4294967296 ^ j * gN r j = natL r + 4294967296 ^ j * x := by
 rw [natL_split (r.set j x) j (by rw [List.length_set]; omega), natL_split r j (by omega), List.take_set_of_le (Nat.le_refl j), natL_set_drop h, natL_drop h]
 rw [Nat.mul_add, Nat.mul_add]
 omega
structure MulI (a b r : List Nat) (i : Nat) : Prop where
 len : r.length = a.length + b.length
 ok : LimOk r
 eq : natL r = natL (a.take i) * natL b
 z : ∀ j, i + b.length ≤ j → gN r j = 0
theorem MulI.zero (a b : List Nat) : MulI a b (List.replicate (a.length + b.length) 0) 0 := by
 refine ⟨by simp, fun x hx => by rw [List.eq_of_mem_replicate hx]; omega, ?_, fun j _ => ?_⟩
 ·have : ∀ n, natL (List.replicate n 0) = 0 := fun n => by
   induction n with
   |zero => rfl
   |succ n ih => rw [List.replicate_succ, natL, ih]
  rw [this]; simp [natL]
 ·unfold gN
  rcases Nat.lt_or_ge j (a.length + b.length) with h | h
  ·simp [List.getD_eq_getElem?_getD, h]
  ·simp [List.getD_eq_getElem?_getD, show a.length + b.length ≤ j from h]
structure MulJ (a b r : List Nat) (i k c : Nat) : Prop where
 len : r.length = a.length + b.length
 ok : LimOk r
 eq : natL r + c * 4294967296 ^ (i + k) = natL (a.take i) * natL b + gN a i * natL (b.take k) * 4294967296 ^ i
 z : ∀ j, i + b.length ≤ j → gN r j = 0
 lt : c < 4294967296
theorem MulI.inner {a b r : List Nat} {i : Nat} (h : MulI a b r i) : MulJ a b r i 0 0 := ⟨h.len, h.ok, by rw [h.eq]; simp [natL], h.z, by omega⟩
theorem mul_step_bd {c x y r : Nat} (h0 : c < 4294967296) (h1 : x < 4294967296) (h2 : y < 4294967296) (h3 : r < 4294967296) : c + x * y + r < 4294967296 * 4294967296 := by
 have := Nat.mul_le_mul (show x ≤ 4294967295 by omega) (show y ≤ 4294967295 by omega)
 omega
theorem gN_set_ne {r : List Nat} {j k x : Nat} (h : j ≠ k) : gN (r.set j x) k = gN r k := by
 unfold gN
 rw [List.getD_eq_getElem?_getD, List.getD_eq_getElem?_getD, List.getElem?_set_ne h]
theorem MulJ.step {a b r : List Nat} {i k c : Nat} (h : MulJ a b r i k c) (hi : i < a.length) (hk : k < b.length) (ha : LimOk a) (hb : LimOk b) :
  MulJ a b (r.set (i + k) ((c + gN a i * gN b k + gN r (i + k)) % 4294967296)) i (k + 1) ((c + gN a i * gN b k + gN r (i + k)) / 4294967296) := by
 have h1 := gN_lt ha i
 have h2 := gN_lt hb k
 have h3 := gN_lt h.ok (i + k)
 have hbd := mul_step_bd h.lt h1 h2 h3
 refine ⟨by rw [List.length_set, h.len], limOk_set h.ok (Nat.mod_lt _ (by omega)), ?_, fun j hj => ?_, by rw [Nat.div_lt_iff_lt_mul (by omega)]; exact hbd⟩
 ·have e := h.eq
  have e1 := natL_set (r := r) (j := i + k) (x := (c + gN a i * gN b k + gN r (i + k)) % 4294967296) (by rw [h.len]; omega)
  have e2 := Nat.mod_add_div (c + gN a i * gN b k + gN r (i + k)) 4294967296
  rw [natL_take_full, show i + (k + 1) = i + k + 1 by omega, Nat.pow_succ]
  generalize (c + gN a i * gN b k + gN r (i + k)) % 4294967296 = x at *
  generalize (c + gN a i * gN b k + gN r (i + k)) / 4294967296 = y at *
  have e3 : 4294967296 ^ (i + k) * (x + 4294967296 * y) = 4294967296 ^ (i + k) * (c + gN a i * gN b k + gN r (i + k)) := by rw [e2]
  rw [Nat.mul_add, Nat.mul_add, Nat.mul_add] at e3
  have e4 : gN a i * (natL (b.take k) + 4294967296 ^ k * gN b k) * 4294967296 ^ i = gN a i * natL (b.take k) * 4294967296 ^ i + 4294967296 ^ (i + k) * (gN a i * gN b k) := by
   rw [Nat.mul_add, Nat.add_mul, Nat.pow_add]
   congr 1
   rw [Nat.mul_comm (gN a i) (4294967296 ^ k * gN b k), Nat.mul_comm (4294967296 ^ k * gN b k * gN a i) (4294967296 ^ i)]
   rw [Nat.mul_assoc (4294967296 ^ k), ← Nat.mul_assoc (4294967296 ^ i), Nat.mul_comm (gN b k) (gN a i)]
  rw [e4]
  have e5 : y * (4294967296 ^ (i + k) * 4294967296) = 4294967296 ^ (i + k) * (4294967296 * y) := by
   rw [Nat.mul_comm y, Nat.mul_assoc]
  have e6 : c * 4294967296 ^ (i + k) = 4294967296 ^ (i + k) * c := Nat.mul_comm _ _
  omega
 ·rw [gN_set_ne (by omega)]; exact h.z j hj
theorem MulJ.done {a b r : List Nat} {i c : Nat} (h : MulJ a b r i b.length c) (hi : i < a.length) : MulI a b (r.set (i + b.length) c) (i + 1) := by
 refine ⟨by rw [List.length_set, h.len], limOk_set h.ok h.lt, ?_, fun j hj => by rw [gN_set_ne (by omega)]; exact h.z j (by omega)⟩
 have e := h.eq
 have e1 := natL_set (r := r) (j := i + b.length) (x := c) (by rw [h.len]; omega)
 rw [h.z _ (Nat.le_refl _)] at e1
 rw [natL_take_all (Nat.le_refl _)] at e
 rw [natL_take_full, Nat.add_mul]
 have e2 : 4294967296 ^ i * gN a i * natL b = gN a i * natL b * 4294967296 ^ i := by rw [Nat.mul_assoc, Nat.mul_comm]
 rw [e2, ← e, Nat.mul_comm c]
 omega
theorem MulI.done {a b r : List Nat} (h : MulI a b r a.length) : natL r = natL a * natL b := by rw [h.eq, natL_take_all (Nat.le_refl _)]
/- the estimate -/
structure EsH (top v1 v0 u0 W U V : Nat) : Prop where
 h1 : 2147483648 ≤ v1
 b1 : v1 < 4294967296
 b0 : v0 < 4294967296
 bu : u0 < 4294967296
 bt : top < 18446744073709551616
 w : 0 < W
 vl : (v1 * 4294967296 + v0) * W ≤ V
 vu : V < (v1 * 4294967296 + v0 + 1) * W
 ul : (top * 4294967296 + u0) * W ≤ U
 uu : U < (top * 4294967296 + u0 + 1) * W
 q : U < 4294967296 * V
structure EsI (top v1 U V q r : Nat) : Prop where
 eq : top = q * v1 + r
 le : U / V ≤ q
theorem EsH.v0p {top v1 v0 u0 W U V : Nat} (h : EsH top v1 v0 u0 W U V) : 0 < V := by
 have h1 := h.vl
 have h2 : 1 * 1 ≤ (v1 * 4294967296 + v0) * W := Nat.mul_le_mul (by have := h.h1; omega) h.w
 omega
theorem EsH.top_le {top v1 v0 u0 W U V : Nat} (h : EsH top v1 v0 u0 W U V) : top ≤ v1 * 4294967296 + v0 := by
 have h1 : (top * 4294967296 + u0) * W < 4294967296 * ((v1 * 4294967296 + v0 + 1) * W) := by
  have := h.ul; have := h.q; have := h.vu
  have : 4294967296 * V < 4294967296 * ((v1 * 4294967296 + v0 + 1) * W) := by omega
  omega
 rw [← Nat.mul_assoc] at h1
 have h2 := Nat.lt_of_mul_lt_mul_right h1
 omega
theorem EsH.start {top v1 v0 u0 W U V : Nat} (h : EsH top v1 v0 u0 W U V) : EsI top v1 U V (top / v1) (top % v1) := by
 refine ⟨by rw [Nat.mul_comm]; exact (Nat.div_add_mod top v1).symm, ?_⟩
 have hv := h.v0p
 have h1 := h.h1
 refine Nat.lt_succ_iff.1 ((Nat.div_lt_iff_lt_mul hv).2 ?_)
 have h2 : top < (top / v1 + 1) * v1 := by
  have := Nat.lt_mul_div_succ top (show 0 < v1 by omega)
  rw [Nat.mul_comm] at this; exact this
 have h3 : (top * 4294967296 + u0 + 1) * W ≤ ((top / v1 + 1) * v1 * 4294967296) * W := Nat.mul_le_mul_right _ (by have := h.bu; omega)
 have h4 : ((top / v1 + 1) * v1 * 4294967296) * W ≤ (top / v1 + 1) * V := by
  rw [Nat.mul_assoc, Nat.mul_assoc, ← Nat.mul_assoc v1]
  refine Nat.mul_le_mul_left _ (Nat.le_trans (Nat.mul_le_mul_right W (Nat.le_add_right _ v0)) h.vl)
 have h5 := h.uu
 show U < (top / v1 + 1) * V
 omega
theorem EsI.small {top v1 v0 u0 W U V q r : Nat} (i : EsI top v1 U V q r) (h : EsH top v1 v0 u0 W U V) (hq : 4294967296 ≤ q) : r < 4294967296 := by
 have h1 := i.eq
 have h2 := h.top_le
 have h3 := h.b0
 have h4 : 4294967296 * v1 ≤ q * v1 := Nat.mul_le_mul_right _ hq
 omega
theorem EsI.q_le {top v1 v0 u0 W U V q r : Nat} (i : EsI top v1 U V q r) (h : EsH top v1 v0 u0 W U V) : q ≤ 4294967297 := by
 have h1 := i.eq
 have h2 := h.top_le
 have h3 := h.b0
 have h4 := h.h1
 rcases Nat.lt_or_ge q 4294967298 with hq | hq
 ·omega
 ·have h5 : 4294967298 * v1 ≤ q * v1 := Nat.mul_le_mul_right _ hq
  omega
theorem EsI.step {top v1 v0 u0 W U V q r : Nat} (i : EsI top v1 U V q r) (h : EsH top v1 v0 u0 W U V) (hc : 4294967296 ≤ q ∨ r * 4294967296 + u0 < q * v0) : 1 ≤ q ∧ EsI top v1 U V (q - 1) (r + v1) := by
 have hv := h.v0p
 have hlt : U / V < q := by
  rcases hc with hc | hc
  ·exact Nat.lt_of_lt_of_le ((Nat.div_lt_iff_lt_mul hv).2 h.q) hc
  ·refine (Nat.div_lt_iff_lt_mul hv).2 ?_
   have h1 : q * (v1 * 4294967296 + v0) = q * v1 * 4294967296 + q * v0 := by rw [Nat.mul_add, Nat.mul_assoc]
   have h2 : top * 4294967296 + u0 + 1 ≤ q * (v1 * 4294967296 + v0) := by
    have e0 := i.eq
    clear h hv i
    rw [h1]
    generalize q * v1 = m at *
    omega
   have h3 := Nat.mul_le_mul_right W h2
   have h4 : q * (v1 * 4294967296 + v0) * W ≤ q * V := by rw [Nat.mul_assoc]; exact Nat.mul_le_mul_left _ h.vl
   have h5 := h.uu
   omega
 obtain ⟨p, rfl⟩ : ∃ p, q = p + 1 := ⟨q - 1, by have := Nat.lt_of_le_of_lt (Nat.zero_le _) hlt; omega⟩
 refine ⟨by omega, ?_, Nat.le_of_lt_succ hlt⟩
 have := i.eq
 rw [Nat.add_mul] at this
 rw [Nat.add_sub_cancel]
 omega
theorem EsI.exit {top v1 v0 u0 W U V q r : Nat} (i : EsI top v1 U V q r) (h : EsH top v1 v0 u0 W U V) (hc : 4294967296 ≤ r ∨ (q < 4294967296 ∧ q * v0 ≤ r * 4294967296 + u0)) : q < 4294967296 ∧ U / V ≤ q ∧ q ≤ U / V + 1 := by
 have hq : q < 4294967296 := by
  rcases hc with hc | hc
  ·rcases Nat.lt_or_ge q 4294967296 with h1 | h1
   ·exact h1
   ·have := i.small h h1; omega
  ·exact hc.1
 have ht : q * v0 ≤ r * 4294967296 + u0 := by
  rcases hc with hc | hc
  ·have h1 : q * v0 ≤ 4294967296 * 4294967296 := Nat.mul_le_mul (by omega) (by have := h.b0; omega)
   have h2 : 4294967296 * 4294967296 ≤ r * 4294967296 := Nat.mul_le_mul_right _ hc
   omega
  ·exact hc.2
 refine ⟨hq, i.le, ?_⟩
 rcases Nat.eq_zero_or_pos q with h0 | h0
 ·rw [h0]; exact Nat.zero_le _
 obtain ⟨p, rfl⟩ : ∃ p, q = p + 1 := ⟨q - 1, by omega⟩
 have hv := h.v0p
 have key : p ≤ U / V := by
  rw [Nat.le_div_iff_mul_le hv]
  have h1 : (p + 1) * (v1 * 4294967296 + v0) ≤ top * 4294967296 + u0 := by
   rw [Nat.mul_add, ← Nat.mul_assoc, i.eq]; omega
  have h2 := Nat.mul_le_mul_right W h1
  have h3 := h.ul
  have h4 : p * V ≤ p * ((v1 * 4294967296 + v0 + 1) * W) := Nat.mul_le_mul_left _ (Nat.le_of_lt h.vu)
  have h5 : p * ((v1 * 4294967296 + v0 + 1) * W) = p * (v1 * 4294967296 + v0) * W + p * W := by
   rw [Nat.add_mul, Nat.mul_add, Nat.mul_assoc, Nat.one_mul]
  have h6 : (p + 1) * (v1 * 4294967296 + v0) * W = p * (v1 * 4294967296 + v0) * W + (v1 * 4294967296 + v0) * W := by
   rw [Nat.add_mul p 1, Nat.add_mul, Nat.one_mul]
  have h7 : p * W ≤ (v1 * 4294967296 + v0) * W := Nat.mul_le_mul_right _ (by have := h.h1; omega)
  omega
 exact Nat.succ_le_succ key
/- the product taken off: r is the row as it stands, i limbs done -/
structure MsI (u v r : List Nat) (q i c b : Nat) : Prop where
 len : r.length = u.length
 ok : LimOk r
 rest : ∀ j, i ≤ j → gN r j = gN u j
 eq : natL (u.take i) + (b + c) * 4294967296 ^ i = natL (r.take i) + q * natL (v.take i)
 b1 : b ≤ 1
 c1 : c < 4294967296
theorem MsI.zero {u : List Nat} (v : List Nat) (q : Nat) (h : LimOk u) : MsI u v u q 0 0 0 := ⟨rfl, h, fun _ _ => rfl, by simp [natL], by omega, by omega⟩
theorem MsI.bd {u v r : List Nat} {q i c b : Nat} (h : MsI u v r q i c b) (hq : q < 4294967296) (hv : LimOk v) : c + q * gN v i < 18446744069414584320 + 1 := by
 have h1 := h.c1
 have h2 := gN_lt hv i
 have := Nat.mul_le_mul (show q ≤ 4294967295 by omega) (show gN v i ≤ 4294967295 by omega)
 omega
theorem MsI.step {u v r : List Nat} {q i c b : Nat} (h : MsI u v r q i c b) (hi : i < u.length) (hu : LimOk u) (hv : LimOk v) (hq : q < 4294967296) :
  MsI u v (r.set i ((gN u i + 2 * 4294967296 - (c + q * gN v i) % 4294967296 - b) % 4294967296)) q (i + 1) ((c + q * gN v i) / 4294967296) (if gN u i < (c + q * gN v i) % 4294967296 + b then 1 else 0) := by
 have h0 := h.bd hq hv
 have h1 := gN_lt hu i
 have h2 := h.b1
 obtain ⟨m, hm⟩ : ∃ m, m = c + q * gN v i := ⟨_, rfl⟩
 have e0 : c + q * gN v i = m := hm.symm
 rw [e0] at h0 ⊢
 refine ⟨by rw [List.length_set, h.len], limOk_set h.ok (Nat.mod_lt _ (by omega)), fun j hj => by rw [gN_set_ne (by omega)]; exact h.rest j (by omega), ?_, by split <;> omega, by omega⟩
 rw [natL_set_take (by rw [h.len]; exact hi), natL_take_full, natL_take_full, Nat.pow_succ]
 have e := h.eq
 have e2 : (gN u i + 2 * 4294967296 - m % 4294967296 - b) % 4294967296 + m % 4294967296 + b = gN u i + (if gN u i < m % 4294967296 + b then 1 else 0) * 4294967296 := by
  split <;> omega
 have e3 := Nat.mod_add_div m 4294967296
 generalize (gN u i + 2 * 4294967296 - m % 4294967296 - b) % 4294967296 = x at *
 generalize (if gN u i < m % 4294967296 + b then 1 else 0) = y at *
 generalize m / 4294967296 = z at *
 generalize m % 4294967296 = t at *
 generalize natL (u.take i) = A at *
 generalize natL (r.take i) = R at *
 generalize natL (v.take i) = S at *
 generalize 4294967296 ^ i = P at *
 generalize gN u i = X at *
 generalize gN v i = Y at *
 have e4 : P * (x + b + c + q * Y) = P * (X + (y + z) * 4294967296) := by congr 1; omega
 have e5 : P * (x + b + c + q * Y) = P * x + P * b + P * c + q * (P * Y) := by
  rw [Nat.mul_add, Nat.mul_add, Nat.mul_add, Nat.mul_left_comm q]
 have e6 : P * (X + (y + z) * 4294967296) = P * X + (y + z) * (P * 4294967296) := by
  rw [Nat.mul_add, Nat.mul_left_comm]
 have e7 : (b + c) * P = P * b + P * c := by rw [Nat.mul_comm, Nat.mul_add]
 rw [Nat.mul_add q]
 omega
/- the last limb: good, or too much by one -/
theorem MsI.good {u v r : List Nat} {q n c b U V : Nat} (h : MsI u v r q n c b) (hv : v.length = n) (hu : n < u.length) (hU : U = natL (u.take (n + 1))) (hV : V = natL v) (hVp : 0 < V) (hq : U / V ≤ q) (hle : c + b ≤ gN u n) :
  q = U / V ∧ natL ((r.set n (gN u n - c - b)).take (n + 1)) = U % V := by
 have e := h.eq
 rw [natL_take_all (l := v) (by omega), ← hV] at e
 have e1 : U = natL (u.take n) + 4294967296 ^ n * gN u n := by rw [hU, natL_take_full]
 rw [natL_set_take (by rw [h.len]; exact hu)]
 generalize natL (r.take n) = R at *
 generalize natL (u.take n) = A at *
 generalize 4294967296 ^ n = P at *
 obtain ⟨k, hk⟩ : ∃ k, gN u n = c + b + k := ⟨gN u n - (c + b), by omega⟩
 rw [hk] at e1 ⊢
 rw [show c + b + k - c - b = k by omega]
 have e2 : P * (c + b + k) = (b + c) * P + P * k := by rw [Nat.mul_add, Nat.mul_comm P (c + b), Nat.add_comm c b]
 have e3 : U = q * V + (R + P * k) := by omega
 have e4 : q ≤ U / V := by rw [Nat.le_div_iff_mul_le hVp]; omega
 have e5 : q = U / V := Nat.le_antisymm e4 hq
 refine ⟨e5, ?_⟩
 have e6 := Nat.div_add_mod U V
 rw [← e5, Nat.mul_comm] at e6
 omega
theorem MsI.bad {u v r : List Nat} {q n c b U V : Nat} (h : MsI u v r q n c b) (hv : v.length = n) (hu : n < u.length) (hU : U = natL (u.take (n + 1))) (hV : V = natL v) (hVp : 0 < V) (hq : q ≤ U / V + 1) (hle : gN u n < c + b) :
  q = U / V + 1 ∧ natL (r.take n) + V = U % V + (c + b - gN u n) * 4294967296 ^ n := by
 have e := h.eq
 rw [natL_take_all (l := v) (by omega), ← hV] at e
 have e1 : U = natL (u.take n) + 4294967296 ^ n * gN u n := by rw [hU, natL_take_full]
 have hR : natL (r.take n) < 4294967296 ^ n := by
  have := natL_lt (l := r.take n) (fun x hx => h.ok x (List.mem_of_mem_take hx))
  rwa [List.length_take, Nat.min_eq_left (by rw [h.len]; omega)] at this
 generalize natL (r.take n) = R at *
 generalize natL (u.take n) = A at *
 generalize 4294967296 ^ n = P at *
 obtain ⟨k, hk⟩ : ∃ k, c + b = gN u n + (k + 1) := ⟨c + b - gN u n - 1, by omega⟩
 rw [hk, show gN u n + (k + 1) - gN u n = k + 1 by omega]
 have e2 : (b + c) * P = P * gN u n + (k + 1) * P := by rw [Nat.add_comm b c, hk, Nat.add_mul, Nat.mul_comm P]
 have e3 : U + (k + 1) * P = R + q * V := by omega
 have e4 : (k + 1) * P = k * P + P := by rw [Nat.add_mul, Nat.one_mul]
 have e5 : U < q * V := by omega
 have e6 : U / V < q := (Nat.div_lt_iff_lt_mul hVp).2 e5
 have e7 : q = U / V + 1 := Nat.le_antisymm hq e6
 refine ⟨e7, ?_⟩
 have e8 := Nat.div_add_mod U V
 rw [e7, Nat.add_mul (U / V), Nat.one_mul, Nat.mul_comm (U / V)] at e3
 omega
/- the divisor added back: s is the row as it stands -/
structure AbI (r v s : List Nat) (i c : Nat) : Prop where
 len : s.length = r.length
 ok : LimOk s
 rest : ∀ j, i ≤ j → gN s j = gN r j
 eq : natL (s.take i) + c * 4294967296 ^ i = natL (r.take i) + natL (v.take i)
 c1 : c ≤ 1
theorem AbI.zero {r : List Nat} (v : List Nat) (h : LimOk r) : AbI r v r 0 0 := ⟨rfl, h, fun _ _ => rfl, by simp [natL], by omega⟩
theorem AbI.step {r v s : List Nat} {i c : Nat} (h : AbI r v s i c) (hi : i < r.length) (hr : LimOk r) (hv : LimOk v) :
  AbI r v (s.set i ((c + (gN r i + gN v i)) % 4294967296)) (i + 1) ((c + (gN r i + gN v i)) / 4294967296) := by
 have h1 := gN_lt hr i
 have h2 := gN_lt hv i
 have h3 := h.c1
 refine ⟨by rw [List.length_set, h.len], limOk_set h.ok (Nat.mod_lt _ (by omega)), fun j hj => by rw [gN_set_ne (by omega)]; exact h.rest j (by omega), ?_, by omega⟩
 rw [natL_set_take (by rw [h.len]; exact hi), natL_take_full, natL_take_full, Nat.pow_succ]
 have e := h.eq
 have e2 := Nat.mod_add_div (c + (gN r i + gN v i)) 4294967296
 generalize (c + (gN r i + gN v i)) % 4294967296 = x at *
 generalize (c + (gN r i + gN v i)) / 4294967296 = y at *
 generalize 4294967296 ^ i = P at *
 have e3 : P * (x + 4294967296 * y) = P * (c + (gN r i + gN v i)) := by rw [e2]
 rw [Nat.mul_add, Nat.mul_add, Nat.mul_add] at e3
 have e4 : y * (P * 4294967296) = P * (4294967296 * y) := by rw [Nat.mul_left_comm, Nat.mul_comm y]
 have e5 : c * P = P * c := Nat.mul_comm _ _
 omega
theorem AbI.done {u v r s : List Nat} {q n c b U V k : Nat} (h : AbI r v s n k) (hm : MsI u v r q n c b) (hv : v.length = n) (hu : n < u.length) (hU : U = natL (u.take (n + 1))) (hV : V = natL v) (hlv : LimOk v) (hVp : 0 < V) (hq : q ≤ U / V + 1) (hle : gN u n < c + b) :
  q = U / V + 1 ∧ natL ((s.set n 0).take (n + 1)) = U % V ∧ k + gN u n = c + b := by
 obtain ⟨h1, h2⟩ := hm.bad hv hu hU hV hVp hq hle
 have e := h.eq
 rw [natL_take_all (l := v) (by omega), ← hV, h2] at e
 have hS : natL (s.take n) < 4294967296 ^ n := by
  have := natL_lt (l := s.take n) (fun x hx => h.ok x (List.mem_of_mem_take hx))
  rwa [List.length_take, Nat.min_eq_left (by rw [h.len, hm.len]; omega)] at this
 have hM : U % V < 4294967296 ^ n := by
  refine Nat.lt_trans (Nat.mod_lt _ hVp) ?_
  rw [hV, ← hv]; exact natL_lt hlv
 refine ⟨h1, ?_, ?_⟩
 ·rw [natL_set_take (by rw [h.len, hm.len]; exact hu), Nat.mul_zero, Nat.add_zero]
  have : (natL (s.take n) + k * 4294967296 ^ n) % 4294967296 ^ n = (U % V + (c + b - gN u n) * 4294967296 ^ n) % 4294967296 ^ n := by rw [e]
  rwa [Nat.add_mul_mod_self_right, Nat.add_mul_mod_self_right, Nat.mod_eq_of_lt hS, Nat.mod_eq_of_lt hM] at this
 ·have hp : 0 < 4294967296 ^ n := Nat.pow_pos (by omega)
  have : (natL (s.take n) + k * 4294967296 ^ n) / 4294967296 ^ n = (U % V + (c + b - gN u n) * 4294967296 ^ n) / 4294967296 ^ n := by rw [e]
  rw [Nat.add_mul_div_right _ _ hp, Nat.add_mul_div_right _ _ hp, Nat.div_eq_of_lt hS, Nat.div_eq_of_lt hM] at this
  omega
theorem pow_split {s : Nat} (hs : s ≤ 32) : 2 ^ s * 2 ^ (32 - s) = 4294967296 := by
 rw [← Nat.pow_add, show s + (32 - s) = 32 by omega]
/- to the left: i limbs done -/
structure ShlI (a r : List Nat) (s i : Nat) : Prop where
 len : r.length = a.length + 1
 ok : LimOk r
 z : ∀ j, i < j → gN r j = 0
 eq : natL (r.take (i + 1)) = natL (a.take i) * 2 ^ s
 c : gN r i < 2 ^ s
theorem gN_zeros (n j : Nat) : gN (List.replicate n 0) j = 0 := by
 unfold gN
 rcases Nat.lt_or_ge j n with h | h
 ·simp [h]
 ·simp [h]
theorem ShlI.zero (a : List Nat) (s : Nat) : ShlI a (List.replicate (a.length + 1) 0) s 0 := by
 refine ⟨by simp, fun x hx => by rw [List.eq_of_mem_replicate hx]; omega, fun j _ => gN_zeros _ _, ?_, ?_⟩
 ·rw [natL_take_full, gN_zeros]; simp [natL]
 ·rw [gN_zeros]; exact Nat.two_pow_pos _
theorem mod_shl {x s : Nat} (hs : s ≤ 31) : (x * 2 ^ s) % 4294967296 = (x % 2 ^ (32 - s)) * 2 ^ s := by
 rw [← pow_split (show s ≤ 32 by omega), Nat.mul_comm x, Nat.mul_mod_mul_left, Nat.mul_comm]
theorem low_bd {x s : Nat} (hs : s ≤ 31) : (x * 2 ^ s) % 4294967296 + 2 ^ s ≤ 4294967296 := by
 rw [mod_shl hs]
 have h1 : x % 2 ^ (32 - s) + 1 ≤ 2 ^ (32 - s) := Nat.mod_lt _ (Nat.two_pow_pos _)
 have h2 := Nat.mul_le_mul_right (2 ^ s) h1
 rw [Nat.add_mul, Nat.one_mul, Nat.mul_comm (2 ^ (32 - s)), pow_split (show s ≤ 32 by omega)] at h2
 exact h2
theorem shl_or_low {c x s : Nat} (hs : s ≤ 31) (hc : c < 2 ^ s) : c ||| ((x * 2 ^ s) % 4294967296) = c + (x * 2 ^ s) % 4294967296 := by
 rw [mod_shl hs, Nat.or_comm, Nat.mul_comm, ← Nat.two_pow_add_eq_or_of_lt hc]
 omega
theorem ShlI.step {a r : List Nat} {s i : Nat} (h : ShlI a r s i) (hi : i < a.length) (ha : LimOk a) (hs : s ≤ 31) :
  ShlI a ((r.set i (gN r i + (gN a i * 2 ^ s) % 4294967296)).set (i + 1) ((gN a i * 2 ^ s) / 4294967296)) s (i + 1) := by
 have hx := gN_lt ha i
 have hl := low_bd (x := gN a i) hs
 have hc := h.c
 have hhi : (gN a i * 2 ^ s) / 4294967296 < 2 ^ s := by
  refine (Nat.div_lt_iff_lt_mul (by omega)).2 ?_
  rw [Nat.mul_comm (2 ^ s)]
  exact Nat.mul_lt_mul_of_pos_right hx (Nat.two_pow_pos _)
 have h31 : 2 ^ s ≤ 2147483648 := Nat.pow_le_pow_right (by omega) hs
 refine ⟨by rw [List.length_set, List.length_set]; exact h.len, limOk_set (limOk_set h.ok (by omega)) (by omega), fun j hj => ?_, ?_, ?_⟩
 ·rw [gN_set_ne (by omega), gN_set_ne (by omega)]; exact h.z j (by omega)
 ·have e := h.eq
  rw [natL_take_full] at e
  rw [natL_set_take (by rw [List.length_set, h.len]; omega), natL_set_take (by rw [h.len]; omega), natL_take_full, Nat.add_mul, ← e]
  have e1 : gN a i * 2 ^ s = (gN a i * 2 ^ s) % 4294967296 + 4294967296 * ((gN a i * 2 ^ s) / 4294967296) := (Nat.mod_add_div _ _).symm
  rw [Nat.mul_assoc (4294967296 ^ i), e1]
  generalize (gN a i * 2 ^ s) / 4294967296 = y
  have e2 : (gN a i * 2 ^ s % 4294967296 + 4294967296 * y) % 4294967296 = gN a i * 2 ^ s % 4294967296 := by omega
  have hml : gN a i * 2 ^ s % 4294967296 < 4294967296 := Nat.mod_lt _ (by omega)
  rw [e2]
  generalize gN a i * 2 ^ s % 4294967296 = x at hml ⊢
  have e3 : (x + 4294967296 * y) / 4294967296 = y := by omega
  rw [e3]
  rw [Nat.pow_succ]
  generalize 4294967296 ^ i = P
  have t1 := Nat.mul_add P (gN r i) x
  have t2 := Nat.mul_add P x (4294967296 * y)
  have t3 := Nat.mul_assoc P 4294967296 y
  rw [t1, t2, t3]
  omega
 ·have : gN ((r.set i (gN r i + (gN a i * 2 ^ s) % 4294967296)).set (i + 1) ((gN a i * 2 ^ s) / 4294967296)) (i + 1) = (gN a i * 2 ^ s) / 4294967296 := by
   rw [gN_eq (by rw [List.length_set, List.length_set, h.len]; omega)]; simp
  rw [this]; exact hhi
theorem ShlI.done {a r : List Nat} {s : Nat} (h : ShlI a r s a.length) : natL r = natL a * 2 ^ s := by
 have e := h.eq
 rwa [natL_take_all (by rw [h.len]; exact Nat.le_refl _), natL_take_all (Nat.le_refl _)] at e
/- to the right -/
def shrN (a : List Nat) (s j : Nat) : Nat := ((gN a j + gN a (j + 1) * 4294967296) / 2 ^ s) % 4294967296
theorem shr_one {x y s : Nat} (hs : s ≤ 31) (hx : x < 4294967296) : ((x + y * 4294967296) / 2 ^ s) % 4294967296 = x / 2 ^ s + (y % 2 ^ s) * 2 ^ (32 - s) := by
 have hp := Nat.two_pow_pos s
 have hp' := Nat.two_pow_pos (32 - s)
 have hB := pow_split (show s ≤ 32 by omega)
 have e1 : (x + y * 4294967296) / 2 ^ s = x / 2 ^ s + y * 2 ^ (32 - s) := by
  rw [← hB, show x + y * (2 ^ s * 2 ^ (32 - s)) = x + 2 ^ s * (y * 2 ^ (32 - s)) by rw [Nat.mul_left_comm], Nat.add_mul_div_left _ _ hp]
 have e2 : y * 2 ^ (32 - s) = (y % 2 ^ s) * 2 ^ (32 - s) + 4294967296 * (y / 2 ^ s) := by
  conv => lhs; rw [← Nat.mod_add_div y (2 ^ s)]
  rw [Nat.add_mul, ← hB, Nat.mul_right_comm, Nat.mul_assoc (2 ^ s)]
 rw [e1, e2, ← Nat.add_assoc, Nat.add_mul_mod_self_left]
 refine Nat.mod_eq_of_lt ?_
 have h1 : x / 2 ^ s < 2 ^ (32 - s) := (Nat.div_lt_iff_lt_mul hp).2 (by rw [Nat.mul_comm, hB]; exact hx)
 have h2 : (y % 2 ^ s + 1) * 2 ^ (32 - s) ≤ 2 ^ s * 2 ^ (32 - s) := Nat.mul_le_mul_right _ (Nat.mod_lt _ hp)
 rw [Nat.add_mul, Nat.one_mul, hB] at h2
 omega
theorem natL_mod {s : Nat} (hs : s ≤ 31) : ∀ a : List Nat, natL a % 2 ^ s = gN a 0 % 2 ^ s
 |[] => rfl
 |x :: a => by
  show (x + 4294967296 * natL a) % 2 ^ s = x % 2 ^ s
  rw [← pow_split (show s ≤ 32 by omega), Nat.mul_assoc, Nat.add_mul_mod_self_left]
theorem shr_all {s : Nat} (hs : s ≤ 31) : ∀ (a r : List Nat), LimOk a → r.length = a.length → (∀ j, j < a.length → gN r j = shrN a s j) → natL r = natL a / 2 ^ s
 |[], [], _, _, _ => by simp [natL]
 |[], _ :: _, _, h, _ => by simp at h
 |_ :: _, [], _, h, _ => by simp at h
 |x :: a, y :: r, ha, hl, h => by
  have ih := shr_all hs a r (fun z hz => ha z (List.mem_cons_of_mem _ hz)) (by simpa using hl) (fun j hj => by
   have := h (j + 1) (by simpa using hj)
   exact this)
  have h0 := h 0 (by simp)
  have hx : x < 4294967296 := ha x (List.mem_cons_self ..)
  have hy : y = x / 2 ^ s + (gN a 0 % 2 ^ s) * 2 ^ (32 - s) := by
   have e : y = shrN (x :: a) s 0 := h0
   rw [e]
   exact shr_one hs hx
  show y + 4294967296 * natL r = (x + 4294967296 * natL a) / 2 ^ s
  have hp := Nat.two_pow_pos s
  have hB := pow_split (show s ≤ 32 by omega)
  rw [ih, hy, ← natL_mod hs a]
  have e1 : (x + 4294967296 * natL a) / 2 ^ s = x / 2 ^ s + 2 ^ (32 - s) * natL a := by
   rw [← hB, Nat.mul_assoc, Nat.add_mul_div_left _ _ hp]
  have e2 : 2 ^ (32 - s) * natL a = natL a % 2 ^ s * 2 ^ (32 - s) + 4294967296 * (natL a / 2 ^ s) := by
   conv => lhs; rw [← Nat.mod_add_div (natL a) (2 ^ s)]
   rw [Nat.mul_add, Nat.mul_comm (2 ^ (32 - s)), ← Nat.mul_assoc, Nat.mul_comm (2 ^ (32 - s)) (2 ^ s), hB]
  rw [e1, e2, Nat.add_assoc]
/- the loop of a long division: u as it stands, u0 as it was, digits from i on done -/
structure LdI (u0 v u q : List Nat) (n i : Nat) : Prop where
 len : u.length = u0.length
 ok : LimOk u
 qok : LimOk q
 low : ∀ j, j < i → gN u j = gN u0 j
 lt : natL (u.drop i) < natL v
 eq : natL (q.drop i) * natL v + natL (u.drop i) = natL (u0.drop i)
theorem ext_gN {a b : List Nat} (hl : a.length = b.length) (h : ∀ j, j < a.length → gN a j = gN b j) : a = b := by
 refine List.ext_getElem hl fun j h1 h2 => ?_
 have := h j h1
 rwa [gN_eq h1, gN_eq h2] at this
theorem natL_lt_take {l : List Nat} {k : Nat} (h : LimOk l) (hk : k ≤ l.length) (hlt : natL l < 4294967296 ^ k) : natL (l.take k) = natL l ∧ natL (l.drop k) = 0 := by
 have e := natL_split l k hk
 have h0 : natL (l.drop k) = 0 := by
  rcases Nat.eq_zero_or_pos (natL (l.drop k)) with h1 | h1
  ·exact h1
  ·have h2 : 4294967296 ^ k * 1 ≤ 4294967296 ^ k * natL (l.drop k) := Nat.mul_le_mul_left _ h1
   omega
 exact ⟨by rw [e, h0]; omega, h0⟩
/- a step: the digit of the window, and the window's rest -/
theorem LdI.step {u0 v u q u' : List Nat} {n i D : Nat} (h : LdI u0 v u q n (i + 1)) (hi : i < u.length) (hq : i < q.length) (hv : v.length = n) (hok : LimOk v) (hiu : i + n + 1 ≤ u.length) (hu0 : i < u0.length)
  (hl' : u'.length = u.length) (hok' : LimOk u') (hlow : ∀ j, j < i → gN u' j = gN u j) (hhigh : ∀ j, i + n < j → gN u' j = gN u j)
  (hD : D = natL ((u.drop i).take (n + 1)) / natL v) (hr : natL ((u'.drop i).take (n + 1)) = natL ((u.drop i).take (n + 1)) % natL v) :
  natL ((u.drop i).take (n + 1)) < 4294967296 * natL v ∧ LdI u0 v u' (q.set i D) n i := by
 have hW : natL (u.drop i) = gN u i + 4294967296 * natL (u.drop (i + 1)) := natL_drop hi
 have hgi := gN_lt h.ok i
 have hvp : 0 < natL v := by have := h.lt; omega
 have hVB : natL v < 4294967296 ^ n := by rw [← hv]; exact natL_lt hok
 have hlt := h.lt
 have hWB : natL (u.drop i) < 4294967296 * natL v := by omega
 have hokd : LimOk (u.drop i) := fun x hx => h.ok x (List.mem_of_mem_drop hx)
 have hT := natL_lt_take (l := u.drop i) (k := n + 1) hokd (by rw [List.length_drop]; omega) (by rw [Nat.pow_succ]; omega)
 rw [hT.1] at hD hr ⊢
 refine ⟨hWB, ?_⟩
 have hdrop : u'.drop (i + (n + 1)) = u.drop (i + (n + 1)) := by
  refine ext_gN (by rw [List.length_drop, List.length_drop, hl']) fun j hj => ?_
  have e : ∀ l : List Nat, gN (l.drop (i + (n + 1))) j = gN l (i + (n + 1) + j) := fun l => by simp [gN, List.getElem?_drop]
  rw [e, e]
  exact hhigh _ (by omega)
 have hokd' : LimOk (u'.drop i) := fun x hx => hok' x (List.mem_of_mem_drop hx)
 have e1 : natL (u'.drop i) = natL (u.drop i) % natL v := by
  rw [natL_split (u'.drop i) (n + 1) (by rw [List.length_drop, hl']; omega), hr, List.drop_drop, hdrop, ← List.drop_drop, hT.2]; omega
 have hml : natL (u.drop i) % natL v < natL v := Nat.mod_lt _ hvp
 refine ⟨hl'.trans h.len, hok', limOk_set h.qok ?_, fun j hj => (hlow j hj).trans (h.low j (by omega)), by rw [e1]; exact hml, ?_⟩
 ·rw [hD]; exact (Nat.div_lt_iff_lt_mul hvp).2 hWB
 ·have hqd : natL ((q.set i D).drop i) = D + 4294967296 * natL (q.drop (i + 1)) := natL_set_drop hq
  rw [hqd, e1, hD, natL_drop hu0]
  have e2 := h.eq
  have e3 := h.low i (by omega)
  have e4 := Nat.div_add_mod (natL (u.drop i)) (natL v)
  rw [← e3, ← e2, Nat.add_mul]
  rw [Nat.mul_comm (natL v)] at e4
  rw [Nat.mul_add, ← Nat.mul_assoc]
  omega
theorem LdI.done {u0 v u q : List Nat} {n : Nat} (h : LdI u0 v u q n 0) : natL q = natL u0 / natL v ∧ natL u = natL u0 % natL v := by
 have e := h.eq
 have hlt := h.lt
 simp only [List.drop_zero] at e hlt
 have hvp : 0 < natL v := by omega
 rw [← e, Nat.mul_comm]
 refine ⟨?_, ?_⟩
 ·rw [Nat.mul_add_div hvp, Nat.div_eq_of_lt hlt]; omega
 ·rw [Nat.mul_add_mod, Nat.mod_eq_of_lt hlt]
end Go.Proofs.YtfegbaokcbjllaaGreat
