/- natural.Add -/
import Derived.Laws.CopyOwn
import Derived.Deep.RegionHeld3
import Derived.Deep.CutRange
import Derived.IntWalk
import Derived.Laws.AppendOwn
import Derived.Laws.MakeOwn
import Derived.RegionTactic
import Derived.Deep.AppendLies
import Derived.Test.YtfegbaokcbjllaaGreatKInPl
import Derived.Test.YtfegbaokcbjllaaGreatKL2
/- natural numbers as rows of limbs of 32 bits, plain. No program in sight. -/
namespace Go.Proofs.YtfegbaokcbjllaaGreat
open Go.RowKit
def natL : List Nat → Nat
 |[] => 0
 |x :: l => x + 4294967296 * natL l
def LimOk (l : List Nat) : Prop := ∀ x, x ∈ l → x < 4294967296
theorem natL_append (a b : List Nat) : natL (a ++ b) = natL a + 4294967296 ^ a.length * natL b := by
 induction a with
 |nil => simp [natL]
 |cons x a ih =>
  simp only [List.cons_append, natL, ih, List.length_cons, Nat.pow_succ]
  rw [Nat.mul_add, ← Nat.mul_assoc, Nat.mul_comm (4294967296 ^ a.length) 4294967296, Nat.add_assoc]
theorem natL_one (x : Nat) : natL [x] = x := by simp [natL]
theorem natL_snoc (l : List Nat) (x : Nat) : natL (l ++ [x]) = natL l + 4294967296 ^ l.length * x := by rw [natL_append, natL_one]
theorem natL_lt {l : List Nat} (h : LimOk l) : natL l < 4294967296 ^ l.length := by
 induction l with
 |nil => simp [natL]
 |cons x l ih =>
  have h1 := h x (by simp)
  have h2 := ih (fun y hy => h y (by simp [hy]))
  simp only [natL, List.length_cons, Nat.pow_succ]
  have : natL l + 1 ≤ 4294967296 ^ l.length := h2
  have := Nat.mul_le_mul_left 4294967296 this
  rw [Nat.mul_comm (4294967296 ^ l.length)]
  omega
def limbs (n : Nat) : List Nat := if n = 0 then [] else n % 4294967296 :: limbs (n / 4294967296)
termination_by n
decreasing_by omega
theorem limbs_zero : limbs 0 = [] := by rw [limbs]; simp
theorem limbs_pos {n : Nat} (h : 0 < n) : limbs n = n % 4294967296 :: limbs (n / 4294967296) := by rw [limbs, if_neg (by omega)]
theorem natL_limbs (n : Nat) : natL (limbs n) = n := by
 induction n using Nat.strongRecOn with
 |ind n ih =>
  rcases Nat.eq_zero_or_pos n with h | h
  ·subst h; rw [limbs_zero]; rfl
  ·rw [limbs_pos h, natL, ih _ (by omega)]; omega
theorem limbs_ok (n : Nat) : LimOk (limbs n) := by
 induction n using Nat.strongRecOn with
 |ind n ih =>
  rcases Nat.eq_zero_or_pos n with h | h
  ·subst h; rw [limbs_zero]; intro x hx; simp at hx
  ·rw [limbs_pos h]
   intro x hx
   rcases List.mem_cons.1 hx with rfl | hx
   ·omega
   ·exact ih _ (by omega) x hx
theorem limbs_nil {n : Nat} (h : limbs n = []) : n = 0 := by have := natL_limbs n; rw [h] at this; exact this.symm
theorem limbs_small {n : Nat} (h0 : 0 < n) (h1 : n < 4294967296) : limbs n = [n] := by
 rw [limbs_pos h0, Nat.mod_eq_of_lt h1, Nat.div_eq_of_lt h1, limbs_zero]
theorem limbs_lt {n : Nat} (h : n < 4294967296) : (limbs n).length ≤ 1 := by
 rcases Nat.eq_zero_or_pos n with h0 | h0
 ·subst h0; rw [limbs_zero]; simp
 ·rw [limbs_small h0 h]; simp
/- trimmed rows -/
def Trim (l : List Nat) : Prop := ∀ h : l ≠ [], l.getLast h ≠ 0
theorem limbs_trim (n : Nat) : Trim (limbs n) := by
 induction n using Nat.strongRecOn with
 |ind n ih =>
  intro hne
  rcases Nat.eq_zero_or_pos n with h | h
  ·subst h; exact absurd limbs_zero hne
  ·have e := limbs_pos h
   by_cases h1 : limbs (n / 4294967296) = []
   ·have h2 := limbs_nil h1
    have : limbs n = [n % 4294967296] := by rw [e, h1]
    simp only [this, List.getLast_singleton]
    omega
   ·have h3 := ih _ (by omega) h1
    have : (limbs n).getLast hne = (limbs (n / 4294967296)).getLast h1 := by simp only [e]; exact List.getLast_cons h1
    rw [this]; exact h3
theorem natL_pos {l : List Nat} (ht : Trim l) (hn : l ≠ []) : 0 < natL l := by
 have h := ht hn
 rw [← List.dropLast_concat_getLast hn, natL_snoc]
 have h1 : 0 < 4294967296 ^ l.dropLast.length := Nat.pow_pos (by omega)
 have h2 : 0 < l.getLast hn := by omega
 have := Nat.mul_pos h1 h2
 omega
theorem limbs_natL : ∀ {l : List Nat}, LimOk l → Trim l → limbs (natL l) = l
 |[], _, _ => limbs_zero
 |x :: l, hl, ht => by
  have h1 := natL_pos ht (by simp)
  rw [limbs_pos h1]
  have hx := hl x (by simp)
  have ht' : Trim l := fun hn => by
   have := ht (by simp)
   rwa [List.getLast_cons hn] at this
  rw [show natL (x :: l) % 4294967296 = x by simp only [natL]; omega, show natL (x :: l) / 4294967296 = natL l by simp only [natL]; omega, limbs_natL (fun y hy => hl y (by simp [hy])) ht']
/- high zeros struck -/
theorem natL_zeros (l : List Nat) (k : Nat) (h : ∀ j, k ≤ j → j < l.length → l.getD j 0 = 0) : natL (l.take k) = natL l := by
 induction l generalizing k with
 |nil => simp
 |cons x l ih =>
  cases k with
  |zero =>
   have h0 : x = 0 := by have := h 0 (by omega) (by simp); simpa using this
   have h1 := ih 0 (fun j hj hjl => by have := h (j + 1) (by omega) (by simp; omega); simpa using this)
   simp only [List.take_zero] at h1 ⊢
   simp only [natL] at h1 ⊢
   omega
  |succ k =>
   have h1 := ih k (fun j hj hjl => by have := h (j + 1) (by omega) (by simp; omega); simpa using this)
   simp only [List.take_succ_cons, natL, h1]
theorem trim_take {l : List Nat} {k : Nat} (hl : LimOk l) (hk : k ≤ l.length) (h : ∀ j, k ≤ j → j < l.length → l.getD j 0 = 0) (h0 : k = 0 ∨ l.getD (k - 1) 0 ≠ 0) : l.take k = limbs (natL l) := by
 have hok : LimOk (l.take k) := fun x hx => hl x (List.mem_of_mem_take hx)
 have ht : Trim (l.take k) := fun hn => by
  have hk0 : 0 < k := by
   rcases Nat.eq_zero_or_pos k with e | e
   ·subst e; simp at hn
   ·exact e
  have hlen : (l.take k).length = k := by rw [List.length_take]; omega
  rw [List.getLast_eq_getElem]
  have h1 : l.getD (k - 1) 0 ≠ 0 := by rcases h0 with e | e; omega; exact e
  have h2 : k - 1 < l.length := by omega
  simp only [List.getD_eq_getElem?_getD, List.getElem?_eq_getElem h2, Option.getD_some] at h1
  simp only [List.getElem_take, hlen]
  exact h1
 rw [← natL_zeros l k h, limbs_natL hok ht]
def ucells (l : List Nat) : List Value := l.map fun (x : Nat) => Value.int .u32 (x : Int)
def gN (l : List Nat) (k : Nat) : Nat := l.getD k 0
theorem gN_eq {l : List Nat} {k : Nat} (h : k < l.length) : gN l k = l[k] := by simp [gN, h]
def LimsAt (w : World) (A : Option Addr) (l : List Nat) : Prop := ∀ k, k < l.length → ∃ b off, A = some ⟨b, off, none⟩ ∧ w.cell? ⟨b, off + k, none⟩ = some (.int .u32 (gN l k : Int))
theorem LimsAt.ext {w w' : World} {A : Option Addr} {l : List Nat} (h : LimsAt w A l) (he : Ext w w') : LimsAt w' A l := fun k hk => by
 obtain ⟨b, off, e, h0⟩ := h k hk
 exact ⟨b, off, e, he.cell h0⟩
theorem LimsAt.take {w : World} {A : Option Addr} {l : List Nat} (h : LimsAt w A l) (k : Nat) : LimsAt w A (l.take k) := fun j hj => by
 rw [List.length_take] at hj
 obtain ⟨b, off, e, h0⟩ := h j (by omega)
 refine ⟨b, off, e, ?_⟩
 rw [gN_eq (show j < (l.take k).length by rw [List.length_take]; omega)]
 rw [gN_eq (show j < l.length by omega)] at h0
 simpa using h0
theorem ucells_length (l : List Nat) : (ucells l).length = l.length := by simp [ucells]
theorem ucells_get {l : List Nat} {k : Nat} (hk : k < l.length) : (ucells l)[k]? = some (.int .u32 (gN l k : Int)) := by rw [gN_eq hk]; simp [ucells, hk]
theorem ucells_set (l : List Nat) (k : Nat) (x : Nat) : (ucells l).set k (.int .u32 (x : Int)) = ucells (l.set k x) := by simp [ucells, List.map_set]
theorem ucells_append (a b : List Nat) : ucells (a ++ b) = ucells a ++ ucells b := by simp [ucells]
theorem lims_blk {t : TypeId} {w : World} {g : Nat} {l : List Nat} {R : List Value} (h : Blk t w g (ucells l ++ R)) : LimsAt w (some ⟨g, 0, none⟩) l := fun k hk => by
 refine ⟨g, 0, rfl, ?_⟩
 rw [Nat.zero_add, h.cell, List.getElem?_append_left (by rw [ucells_length]; exact hk), ucells_get hk]
/- a row of limbs of the call's own -/
def OwnU (w : World) (base : Nat) (v : Value) (l : List Nat) : Prop := w.ownsRow base 192 1 v l.length (ucells l)
theorem OwnU.slice {w : World} {base : Nat} {v : Value} {l : List Nat} (h : OwnU w base v l) : ∃ A cap, v = .slice A l.length cap ∧ LimsAt w A l ∧ l.length ≤ cap ∧ cap ≤ 9223372036854775807 := by
 rcases h.2 with ⟨rfl, h0⟩ | ⟨g, cap, cur, rfl, hb, hh, hn, hm, hs, ht⟩
 ·rw [List.eq_nil_of_length_eq_zero h0]
  exact ⟨none, 0, rfl, fun _ hk => absurd hk (Nat.not_lt_zero _), Nat.le_refl _, by omega⟩
 ·refine ⟨_, cap, rfl, fun k hk => ⟨g, 0, rfl, ?_⟩, hn, hm⟩
  have := World.ownsRow.cells h (g := g) rfl k (.int .u32 (gN l k : Int)) (ucells_get hk)
  rwa [addr_add] at this
/- a number -/
def NatAt (w : World) (v : Value) (n : Nat) : Prop := ∃ A cap, v = .slice A (limbs n).length cap ∧ LimsAt w A (limbs n) ∧ (limbs n).length ≤ cap ∧ cap ≤ 9223372036854775807
theorem NatAt.ext {w w' : World} {v : Value} {n : Nat} (h : NatAt w v n) (he : Ext w w') : NatAt w' v n := by
 obtain ⟨A, cap, e, h1, h2, h3⟩ := h
 exact ⟨A, cap, e, h1.ext he, h2, h3⟩
theorem natAt_of {w : World} {A : Option Addr} {cap k : Nat} {l : List Nat} {n : Nat} (h : LimsAt w A l) (hl : l = limbs n) (hk : l.length = k) (hc : k ≤ cap) (hc' : cap ≤ 9223372036854775807) : NatAt w (.slice A k cap) n := by
 subst hl; subst hk
 exact ⟨A, cap, rfl, h, hc, hc'⟩
theorem nat_nil (w : World) : NatAt w (.slice none 0 0) 0 := ⟨none, 0, by rw [limbs_zero]; rfl, by rw [limbs_zero]; exact fun _ hk => absurd hk (Nat.not_lt_zero _), by rw [limbs_zero]; exact Nat.le_refl _, by omega⟩
def RetNt (w : World) (n : Nat) (e : Ending) (w' : World) : Prop := ∃ u, e = .returned u ∧ NatAt w' u n ∧ Ext w w'
theorem natL_take_succ {l : List Nat} {k : Nat} (h : k < l.length) : natL (l.take (k + 1)) = natL (l.take k) + 4294967296 ^ k * gN l k := by
 rw [take_succ l k h, natL_snoc, gN_eq h, List.length_take, Nat.min_eq_left (by omega)]
theorem natL_take_all {l : List Nat} {k : Nat} (h : l.length ≤ k) : natL (l.take k) = natL l := by rw [List.take_of_length_le h]
theorem gN_lt {l : List Nat} (h : LimOk l) (k : Nat) : gN l k < 4294967296 := by
 rcases Nat.lt_or_ge k l.length with hk | hk
 ·rw [gN_eq hk]; exact h _ (List.getElem_mem hk)
 ·simp [gN, hk]
theorem natL_drop {l : List Nat} {k : Nat} (h : k < l.length) : natL (l.drop k) = gN l k + 4294967296 * natL (l.drop (k + 1)) := by
 rw [List.drop_eq_getElem_cons h, natL, gN_eq h]
theorem natL_split (l : List Nat) (k : Nat) (h : k ≤ l.length) : natL l = natL (l.take k) + 4294967296 ^ k * natL (l.drop k) := by
 conv => lhs; rw [← List.take_append_drop k l]
 rw [natL_append, List.length_take, Nat.min_eq_left h]
theorem natL_take_full {l : List Nat} {k : Nat} : natL (l.take (k + 1)) = natL (l.take k) + 4294967296 ^ k * gN l k := by
 rcases Nat.lt_or_ge k l.length with h | h
 ·exact natL_take_succ h
 ·rw [natL_take_all (by omega), natL_take_all h]; simp [gN, h]
theorem limOk_snoc {l : List Nat} {x : Nat} (h : LimOk l) (hx : x < 4294967296) : LimOk (l ++ [x]) := fun y hy => by
 rcases List.mem_append.1 hy with h1 | h1
 ·exact h y h1
 ·rw [List.mem_singleton.1 h1]; exact hx
theorem limOk_set {l : List Nat} {x k : Nat} (h : LimOk l) (hx : x < 4294967296) : LimOk (l.set k x) := fun y hy => by
 rcases List.mem_or_eq_of_mem_set hy with h1 | h1
 ·exact h y h1
 ·rw [h1]; exact hx
/- one step of a sum -/
structure AddI (a b r : List Nat) (i c : Nat) : Prop where
 len : r.length = i
 ok : LimOk r
 eq : natL r + c * 4294967296 ^ i = natL (a.take i) + natL (b.take i)
 c1 : c ≤ 1
theorem AddI.zero (a b : List Nat) : AddI a b [] 0 0 := ⟨rfl, fun _ h => by simp at h, by simp [natL], by omega⟩
theorem AddI.step {a b r : List Nat} {i c : Nat} (h : AddI a b r i c) (ha : LimOk a) (hb : LimOk b) : AddI a b (r ++ [(c + gN a i + gN b i) % 4294967296]) (i + 1) ((c + gN a i + gN b i) / 4294967296) := by
 have h1 := gN_lt ha i
 have h2 := gN_lt hb i
 have h3 := h.c1
 refine ⟨by rw [List.length_append, h.len]; rfl, limOk_snoc h.ok (Nat.mod_lt _ (by omega)), ?_, by omega⟩
 rw [natL_snoc, h.len, natL_take_full, natL_take_full, Nat.pow_succ]
 have e := h.eq
 have e2 : (c + gN a i + gN b i) % 4294967296 + 4294967296 * ((c + gN a i + gN b i) / 4294967296) = c + gN a i + gN b i := Nat.mod_add_div _ _
 generalize 4294967296 ^ i = P at *
 generalize (c + gN a i + gN b i) % 4294967296 = x at *
 generalize (c + gN a i + gN b i) / 4294967296 = y at *
 have e3 : P * (x + 4294967296 * y) = P * (c + gN a i + gN b i) := by rw [e2]
 rw [Nat.mul_add, Nat.mul_add, Nat.mul_add] at e3
 have e4 : y * (P * 4294967296) = P * (4294967296 * y) := by rw [Nat.mul_comm P 4294967296, Nat.mul_left_comm, Nat.mul_comm y P, Nat.mul_left_comm]
 have e5 : c * P = P * c := Nat.mul_comm _ _
 omega
theorem AddI.done {a b r : List Nat} {c : Nat} (h : AddI a b r a.length c) (hl : b.length ≤ a.length) : natL (r ++ [c]) = natL a + natL b := by
 have e := h.eq
 rw [natL_take_all (Nat.le_refl _), natL_take_all hl] at e
 rw [natL_snoc, h.len, Nat.mul_comm]; exact e
/- one step of a difference -/
structure SubI (a b r : List Nat) (n i c : Nat) : Prop where
 len : r.length = n
 ok : LimOk r
 eq : natL (r.take i) + natL (b.take i) = natL (a.take i) + c * 4294967296 ^ i
 c1 : c ≤ 1
theorem natL_set_take {r : List Nat} {i x : Nat} (h : i < r.length) : natL ((r.set i x).take (i + 1)) = natL (r.take i) + 4294967296 ^ i * x := by
 rw [natL_take_succ (by rw [List.length_set]; exact h), List.take_set_of_le (Nat.le_refl i)]
 simp [gN, h]
theorem SubI.step {a b r : List Nat} {n i c : Nat} (h : SubI a b r n i c) (hi : i < n) (ha : LimOk a) (hb : LimOk b) :
  SubI a b (r.set i ((gN a i + 2 * 4294967296 - c - gN b i) % 4294967296)) n (i + 1) (if gN a i < c + gN b i then 1 else 0) := by
 have h1 := gN_lt ha i
 have h2 := gN_lt hb i
 have h3 := h.c1
 refine ⟨by rw [List.length_set, h.len], limOk_set h.ok (Nat.mod_lt _ (by omega)), ?_, by split <;> omega⟩
 rw [natL_set_take (by rw [h.len]; exact hi), natL_take_full, natL_take_full, Nat.pow_succ]
 have e := h.eq
 have e2 : (gN a i + 2 * 4294967296 - c - gN b i) % 4294967296 + c + gN b i = gN a i + (if gN a i < c + gN b i then 1 else 0) * 4294967296 := by
  split <;> omega
 generalize (gN a i + 2 * 4294967296 - c - gN b i) % 4294967296 = x at *
 generalize (if gN a i < c + gN b i then 1 else 0) = y at *
 generalize 4294967296 ^ i = P at *
 have e3 : P * (x + c + gN b i) = P * (gN a i + y * 4294967296) := by rw [e2]
 rw [Nat.mul_add, Nat.mul_add, Nat.mul_add] at e3
 have e4 : y * (P * 4294967296) = P * (y * 4294967296) := by rw [Nat.mul_left_comm]
 have e5 : c * P = P * c := Nat.mul_comm _ _
 omega
theorem SubI.done {a b r : List Nat} {c : Nat} (h : SubI a b r a.length a.length c) (hl : b.length ≤ a.length) (hab : natL b ≤ natL a) : natL r = natL a - natL b := by
 have e := h.eq
 have hlt := natL_lt h.ok
 rw [h.len] at hlt
 rw [natL_take_all (Nat.le_refl _), natL_take_all hl, natL_take_all (by rw [h.len]; exact Nat.le_refl _)] at e
 have hc : c = 0 := by
  rcases Nat.eq_zero_or_pos c with h0 | h0
  ·exact h0
  ·have := h.c1
   obtain rfl : c = 1 := by omega
   omega
 subst hc
 omega
/- one step of a short division, from the high end -/
structure DivI (a q : List Nat) (d i r : Nat) : Prop where
 len : q.length = a.length
 ok : LimOk q
 eq : natL (a.drop i) = natL (q.drop i) * d + r
 lt : r < d
theorem natL_set_drop {q : List Nat} {i x : Nat} (h : i < q.length) : natL ((q.set i x).drop i) = x + 4294967296 * natL (q.drop (i + 1)) := by
 rw [natL_drop (by rw [List.length_set]; exact h), List.drop_set_of_lt (by omega)]
 simp [gN, h]
theorem DivI.step {a q : List Nat} {d i r : Nat} (h : DivI a q d (i + 1) r) (hi : i < a.length) (hd : d < 4294967296) (ha : LimOk a) :
  DivI a (q.set i ((r * 4294967296 + gN a i) / d)) d i ((r * 4294967296 + gN a i) % d) := by
 have h1 := gN_lt ha i
 have h2 := h.lt
 have hd0 : 0 < d := by omega
 have hq : (r * 4294967296 + gN a i) / d < 4294967296 := by
  rw [Nat.div_lt_iff_lt_mul hd0]
  have : (r + 1) * 4294967296 ≤ d * 4294967296 := Nat.mul_le_mul_right _ h2
  rw [Nat.mul_comm 4294967296 d]
  omega
 refine ⟨by rw [List.length_set, h.len], limOk_set h.ok hq, ?_, Nat.mod_lt _ hd0⟩
 rw [natL_drop hi, h.eq, natL_set_drop (by rw [h.len]; exact hi)]
 have e := Nat.div_add_mod (r * 4294967296 + gN a i) d
 generalize (r * 4294967296 + gN a i) / d = x at *
 generalize (r * 4294967296 + gN a i) % d = y at *
 rw [Nat.add_mul, Nat.mul_assoc, Nat.mul_add]
 rw [Nat.mul_comm d x] at e
 omega
theorem DivI.done {a q : List Nat} {d r : Nat} (h : DivI a q d 0 r) : natL q = natL a / d ∧ r = natL a % d := by
 have e := h.eq
 simp only [List.drop_zero] at e
 have hd0 : 0 < d := by have := h.lt; omega
 rw [e]
 constructor
 ·rw [Nat.mul_comm, Nat.mul_add_div hd0, Nat.div_eq_of_lt h.lt]; omega
 ·rw [Nat.mul_comm, Nat.mul_add_mod, Nat.mod_eq_of_lt h.lt]
/- products -/
theorem natL_set {r : List Nat} {j x : Nat} (h : j < r.length) : natL (r.set j x) + 4294967296 ^ j * gN r j = natL r + 4294967296 ^ j * x := by
 rw [natL_split (r.set j x) j (by rw [List.length_set]; omega), natL_split r j (by omega), List.take_set_of_le (Nat.le_refl j), natL_set_drop h, natL_drop h]
 rw [Nat.mul_add, Nat.mul_add]
 omega
structure MulI (a b r : List Nat) (i : Nat) : Prop where
 len : r.length = a.length + b.length
 ok : LimOk r
 eq : natL r = natL (a.take i) * natL b
 z : ∀ j, i + b.length ≤ j → gN r j = 0
theorem MulI.zero (a b : List Nat) : MulI a b (List.replicate (a.length + b.length) 0) 0 := by
 refine ⟨by simp, fun x hx => by rw [List.eq_of_mem_replicate hx]; omega, ?_, fun j _ => ?_⟩
 ·have : ∀ n, natL (List.replicate n 0) = 0 := fun n => by
   induction n with
   |zero => rfl
   |succ n ih => rw [List.replicate_succ, natL, ih]
  rw [this]; simp [natL]
 ·unfold gN
  rcases Nat.lt_or_ge j (a.length + b.length) with h | h
  ·simp [List.getD_eq_getElem?_getD, h]
  ·simp [List.getD_eq_getElem?_getD, show a.length + b.length ≤ j from h]
structure MulJ (a b r : List Nat) (i k c : Nat) : Prop where
 len : r.length = a.length + b.length
 ok : LimOk r
 eq : natL r + c * 4294967296 ^ (i + k) = natL (a.take i) * natL b + gN a i * natL (b.take k) * 4294967296 ^ i
 z : ∀ j, i + b.length ≤ j → gN r j = 0
 lt : c < 4294967296
theorem MulI.inner {a b r : List Nat} {i : Nat} (h : MulI a b r i) : MulJ a b r i 0 0 := ⟨h.len, h.ok, by rw [h.eq]; simp [natL], h.z, by omega⟩
theorem mul_step_bd {c x y r : Nat} (h0 : c < 4294967296) (h1 : x < 4294967296) (h2 : y < 4294967296) (h3 : r < 4294967296) : c + x * y + r < 4294967296 * 4294967296 := by
 have := Nat.mul_le_mul (show x ≤ 4294967295 by omega) (show y ≤ 4294967295 by omega)
 omega
theorem gN_set_ne {r : List Nat} {j k x : Nat} (h : j ≠ k) : gN (r.set j x) k = gN r k := by
 unfold gN
 rw [List.getD_eq_getElem?_getD, List.getD_eq_getElem?_getD, List.getElem?_set_ne h]
theorem MulJ.step {a b r : List Nat} {i k c : Nat} (h : MulJ a b r i k c) (hi : i < a.length) (hk : k < b.length) (ha : LimOk a) (hb : LimOk b) :
  MulJ a b (r.set (i + k) ((c + gN a i * gN b k + gN r (i + k)) % 4294967296)) i (k + 1) ((c + gN a i * gN b k + gN r (i + k)) / 4294967296) := by
 have h1 := gN_lt ha i
 have h2 := gN_lt hb k
 have h3 := gN_lt h.ok (i + k)
 have hbd := mul_step_bd h.lt h1 h2 h3
 refine ⟨by rw [List.length_set, h.len], limOk_set h.ok (Nat.mod_lt _ (by omega)), ?_, fun j hj => ?_, by rw [Nat.div_lt_iff_lt_mul (by omega)]; exact hbd⟩
 ·have e := h.eq
  have e1 := natL_set (r := r) (j := i + k) (x := (c + gN a i * gN b k + gN r (i + k)) % 4294967296) (by rw [h.len]; omega)
  have e2 := Nat.mod_add_div (c + gN a i * gN b k + gN r (i + k)) 4294967296
  rw [natL_take_full, show i + (k + 1) = i + k + 1 by omega, Nat.pow_succ]
  generalize (c + gN a i * gN b k + gN r (i + k)) % 4294967296 = x at *
  generalize (c + gN a i * gN b k + gN r (i + k)) / 4294967296 = y at *
  have e3 : 4294967296 ^ (i + k) * (x + 4294967296 * y) = 4294967296 ^ (i + k) * (c + gN a i * gN b k + gN r (i + k)) := by rw [e2]
  rw [Nat.mul_add, Nat.mul_add, Nat.mul_add] at e3
  have e4 : gN a i * (natL (b.take k) + 4294967296 ^ k * gN b k) * 4294967296 ^ i = gN a i * natL (b.take k) * 4294967296 ^ i + 4294967296 ^ (i + k) * (gN a i * gN b k) := by
   rw [Nat.mul_add, Nat.add_mul, Nat.pow_add]
   congr 1
   rw [Nat.mul_comm (gN a i) (4294967296 ^ k * gN b k), Nat.mul_comm (4294967296 ^ k * gN b k * gN a i) (4294967296 ^ i)]
   rw [Nat.mul_assoc (4294967296 ^ k), ← Nat.mul_assoc (4294967296 ^ i), Nat.mul_comm (gN b k) (gN a i)]
  rw [e4]
  have e5 : y * (4294967296 ^ (i + k) * 4294967296) = 4294967296 ^ (i + k) * (4294967296 * y) := by
   rw [Nat.mul_comm y, Nat.mul_assoc]
  have e6 : c * 4294967296 ^ (i + k) = 4294967296 ^ (i + k) * c := Nat.mul_comm _ _
  omega
 ·rw [gN_set_ne (by omega)]; exact h.z j hj
theorem MulJ.done {a b r : List Nat} {i c : Nat} (h : MulJ a b r i b.length c) (hi : i < a.length) : MulI a b (r.set (i + b.length) c) (i + 1) := by
 refine ⟨by rw [List.length_set, h.len], limOk_set h.ok h.lt, ?_, fun j hj => by rw [gN_set_ne (by omega)]; exact h.z j (by omega)⟩
 have e := h.eq
 have e1 := natL_set (r := r) (j := i + b.length) (x := c) (by rw [h.len]; omega)
 rw [h.z _ (Nat.le_refl _)] at e1
 rw [natL_take_all (Nat.le_refl _)] at e
 rw [natL_take_full, Nat.add_mul]
 have e2 : 4294967296 ^ i * gN a i * natL b = gN a i * natL b * 4294967296 ^ i := by rw [Nat.mul_assoc, Nat.mul_comm]
 rw [e2, ← e, Nat.mul_comm c]
 omega
theorem MulI.done {a b r : List Nat} (h : MulI a b r a.length) : natL r = natL a * natL b := by rw [h.eq, natL_take_all (Nat.le_refl _)]
theorem trim_any (A : Option Addr) (n c : Nat) (l : List Nat) (w : World) (ha : LimsAt w A l) (hok : LimOk l) (hl : l.length = n) (hc : n ≤ c) (hc' : c ≤ 9223372036854775807) :
  Calls Tryz.prog 146 #[.slice A n c] w (RetNt w (natL l)) := by
 have HL := Lib.hid hl; clear hl
 have HA := Lib.hid ha; clear ha
 have HT := Lib.hid (fun k (hk : k ≤ n) h h0 => trim_take (k := k) hok (by rw [HL.out]; exact hk) h h0)
 clear hok
 go_enter Tryz.func146, Tryz.ntmps146
 go_wp2_with fail
 go_loopw [3] (fun i wr => ∃ k : Nat, k ≤ n ∧ i = .int .i64 k ∧ (∀ j, k ≤ j → j < n → gN l j = 0) ∧ Ext w wr) (fun i _ => (intOf i).toNat)
 case atStart => exact ⟨n, Nat.le_refl _, rfl, fun j h1 h2 => by omega, Ext.refl _⟩
 case round =>
  obtain ⟨k, hk, rfl, hz, hx⟩ := hrel
  have HZ := Lib.hid hz; clear hz
  have hk3 : (k : Int) ≤ c := by omega
  have hk4 : (0 : Int) ≤ k := by omega
  by_cases h0 : k = 0
  ·subst h0
   go_wp2_with fail
   go_ret
   refine ⟨_, rfl, natAt_of (l := l.take 0) ((HA.out.ext hx).take 0) (HT.out 0 (by omega) (fun j h1 h2 => HZ.out j h1 (by rw [← HL.out]; exact h2)) (.inl rfl)) rfl (by omega) hc', hx⟩
  ·obtain ⟨m, rfl⟩ : ∃ m, k = m + 1 := ⟨k - 1, by omega⟩
   obtain ⟨b, off, rfl, q0⟩ := (HA.out.ext hx) m (by rw [HL.out]; omega)
   have hm1 : (m : Int) < n := by omega
   have hm0 : (0 : Int) ≤ m := by omega
   have hme : ((m + 1 : Nat) : Int) - 1 = m := by omega
   by_cases hg : gN l m = 0
   ·rw [hg] at q0
    go_wp2_with fail
    go_roundw
    case rel =>
     refine ⟨m, by omega, by go_num, fun j h1 h2 => ?_, hx⟩
     rcases Nat.eq_or_lt_of_le h1 with e | e
     ·subst e; exact hg
     ·exact HZ.out j e h2
    case measure => simp [intOf]
   ·obtain ⟨x, hx'⟩ : ∃ x, x = gN l m := ⟨_, rfl⟩
    rw [← hx'] at q0 hg
    have hgb : ((x : Int) == 0) = false := by simp; omega
    go_wp2_with fail
    go_ret
    refine ⟨_, rfl, natAt_of (l := l.take (m + 1)) ((HA.out.ext hx).take (m + 1)) (HT.out (m + 1) hk (fun j h1 h2 => HZ.out j h1 (by rw [← HL.out]; exact h2)) (.inr ?_)) (by rw [List.length_take, HL.out]; omega) (by omega) hc', hx⟩
    rw [Nat.add_sub_cancel]
    show gN l m ≠ 0
    omega
theorem lim_info : (Tryz.prog.info? 192).map (fun i => (i.zero, i.size, i.bytes)) = some (some (.int .u32 0), 1, 4) := by kernel_rfl
theorem make_lims (n : Nat) (hn : n ≤ 100000) (w : World) : (Instr.makeSlice 141 (.int .i64 n) (.int .i64 n)).run Tryz.prog w = .ok (.slice (some ⟨w.heap.size, 0, none⟩) n n) (w.alloc (.cells (ucells (List.replicate n 0)).toArray 192)) := by
 have h := run_make (P := Tryz.prog) w 141 192 (i := ((Tryz.prog.info? 192).getD default)) (z := .int .u32 0) Tryz.underlying141 (by kernel_rfl) (by kernel_rfl) .i64 .i64 n n (by omega) (by omega) (by
  rw [show ((Tryz.prog.info? 192).getD default).bytes = 4 from by kernel_rfl]; omega) (by omega)
 rw [show ((Tryz.prog.info? 192).getD default).size = 1 from by kernel_rfl] at h
 rw [show (ucells (List.replicate n 0)).toArray = madeCells #[.int .u32 0] (n * 1) from by rw [made_one]; simp [ucells]]
 simpa [Value.cells] using h
theorem LimsAt.cellsA {w : World} {a : Addr} {l : List Nat} (h : LimsAt w (some a) l) : ∀ j u, (ucells l)[j]? = some u → w.cell? (a.add j) = some u := by
 intro j u hu
 have hj : j < l.length := by
  rcases Nat.lt_or_ge j l.length with h1 | h1
  ·exact h1
  ·rw [List.getElem?_eq_none (by rw [ucells_length]; exact h1)] at hu; cases hu
 obtain ⟨b, off, e, h0⟩ := h j hj
 injection e with e
 subst e
 rw [addr_add, h0, ← hu, ucells_get hj]
theorem limbs_le : ∀ {k n : Nat}, n < 4294967296 ^ k → (limbs n).length ≤ k
 |0, n, h => by
  obtain rfl : n = 0 := by simpa using h
  rw [limbs_zero]; exact Nat.le_refl _
 |k + 1, n, h => by
  rcases Nat.eq_zero_or_pos n with h0 | h0
  ·subst h0; rw [limbs_zero]; exact Nat.zero_le _
  ·rw [limbs_pos h0, List.length_cons]
   rw [Nat.pow_succ] at h
   have := limbs_le (k := k) (n := n / 4294967296) (by rw [Nat.div_lt_iff_lt_mul (by omega)]; exact h)
   omega
theorem nof_any (n : Nat) (w : World) (hn : n < 18446744073709551616) : Calls Tryz.prog 142 #[.int .u64 (n : Int)] w (RetNt w n) := by
 have HT := Lib.hid (fun W (g : Nat) (hb : Blk 192 W g (ucells [n % 4294967296, n / 4294967296])) => trim_any (some ⟨g, 0, none⟩) 2 2 [n % 4294967296, n / 4294967296] W (lims_blk (R := []) (by simpa using hb)) (fun x hx => by
  rcases List.mem_cons.1 hx with rfl | hx
  ·omega
  ·rw [List.mem_singleton.1 hx]; omega) rfl (Nat.le_refl _) (by omega))
 have he : natL [n % 4294967296, n / 4294967296] = n := by simp only [natL]; omega
 rw [he] at HT
 have e1 : ((n % 4294967296 : Nat) : Int) = (n : Int) % 4294967296 := by omega
 have e2 : ((n / 4294967296 : Nat) : Int) = (n : Int) / 4294967296 := by omega
 have HC : Hid (∀ W : World, Blk 192 (W.alloc (.cells #[.int .u32 ((n : Int) % 4294967296), .int .u32 ((n : Int) / 4294967296)] 192)) W.heap.size (ucells [n % 4294967296, n / 4294967296])) := fun W => by
  have h := Blk.new 192 W [.int .u32 ((n : Int) % 4294967296), .int .u32 ((n : Int) / 4294967296)]
  rw [← e1, ← e2] at h ⊢
  exact h
 clear e1 e2
 go_enter Tryz.func142, Tryz.ntmps142
 go_wp2_with fail
 refine (HT.out _ w.heap.size (HC.out w)).mono ?_
 rintro e w1 ⟨v, rfl, hv, he1⟩
 go_wp2_with fail
 go_ret
 exact ⟨v, rfl, hv, ((Ext.refl _).alloc _).trans he1⟩
set_option maxRecDepth 100000 in
theorem norm_any (u : Value) (x : Nat) (w : World) (h : NatAt w u x) (hx : (limbs x).length ≤ 1000) : Calls Tryz.prog 155 #[u] w (RetNt w x) := by
 obtain ⟨A, c, rfl, h1, h2, h3⟩ := h
 have ht := trim_any A _ c (limbs x) w h1 (limbs_ok x) rfl h2 h3
 rw [natL_limbs] at ht
 have HT := Lib.hid ht
 clear ht h1 h2 h3
 obtain ⟨L, hL⟩ : ∃ L, L = limbs x := ⟨_, rfl⟩
 have HLE := Lib.hid hL
 obtain ⟨n, hn⟩ : ∃ n, n = L.length := ⟨_, rfl⟩
 rw [← hL, ← hn] at HT hx ⊢
 have HNE := Lib.hid hn
 clear hn hL
 have hmk := make_lims n (by omega)
 go_enter Tryz.func155, Tryz.ntmps155
 go_wp2_with fail
 refine (HT.out).mono ?_
 rintro e w1 ⟨v, rfl, hv, he1⟩
 obtain ⟨A1, c1, rfl, g1, g2, g3⟩ := hv
 rw [← HLE.out] at g1 g2
 rw [← HLE.out, ← HNE.out]
 rw [← HNE.out] at g2
 have HG1 := Lib.hid g1
 have HEX := Lib.hid he1
 clear g1 he1
 go_wp2_with (refine wpList_copy_splice rfl (.tmp 9) (.tmp 10) 141 141 rfl 192 Tryz.underlying141 (by kernel_rfl) (some ⟨w1.heap.size, 0, none⟩) A1 n n n c1 rfl rfl w1.heap.size 0 (ucells (List.replicate n 0)) 192 ?k1 (ucells L) ?k2 ?k3 ?k4 ?k5 w.heap.size w ?k6 ?k7 ?_)
 case k1 => exact Blk.new _ _ _
 case k2 => rw [ucells_length, ← HNE.out]; simp
 case k3 =>
  intro hpos
  rw [ucells_length] at hpos
  obtain ⟨b, off, e, _⟩ := HG1.out 0 hpos
  subst e
  exact ⟨_, rfl, fun j v hv => ((Ext.refl _).alloc _).cell (HG1.out.cellsA j v hv)⟩
 case k4 => rw [ucells_length, ucells_length, ← HNE.out]; simp
 case k5 => intro v hv; obtain ⟨x, _, rfl⟩ := List.mem_map.1 hv; rfl
 case k6 => exact (HEX.out.alloc _)
 case k7 => exact HEX.out.size
 intro w2 hb2 he2
 go_wp2_with fail
 go_ret
 have hb := hb2.out
 have e : (splice (ucells (List.replicate n 0)) 0 (ucells L)) = ucells L := by
  unfold splice
  rw [List.take_zero, List.nil_append, Nat.zero_add, List.drop_of_length_le (by rw [ucells_length, ucells_length, ← HNE.out]; simp), List.append_nil]
 rw [e] at hb
 refine ⟨_, rfl, natAt_of (l := L) (lims_blk (R := []) (by rw [List.append_nil]; exact hb)) HLE.out HNE.out.symm (Nat.le_refl _) (by omega), he2⟩
theorem limbs_len_lt {x y : Nat} (h : (limbs x).length < (limbs y).length) : x < y := by
 have h1 := natL_lt (limbs_ok x)
 rw [natL_limbs] at h1
 have hne : limbs y ≠ [] := fun e => by rw [e] at h; exact absurd h (Nat.not_lt_zero _)
 have h2 := limbs_trim y hne
 have e : y = natL (limbs y).dropLast + 4294967296 ^ (limbs y).dropLast.length * (limbs y).getLast hne := by
  conv => lhs; rw [← natL_limbs y, ← List.dropLast_concat_getLast hne, natL_snoc]
 rw [List.length_dropLast] at e
 have h3 : 4294967296 ^ (limbs x).length ≤ 4294967296 ^ ((limbs y).length - 1) := Nat.pow_le_pow_right (by omega) (by omega)
 have h4 : 4294967296 ^ ((limbs y).length - 1) * 1 ≤ 4294967296 ^ ((limbs y).length - 1) * (limbs y).getLast hne := Nat.mul_le_mul_left _ (by omega)
 omega
theorem cmp_at {a b : List Nat} (hl : a.length = b.length) (ha : LimOk a) {i : Nat} (hi : i < a.length) (hd : natL (a.drop (i + 1)) = natL (b.drop (i + 1))) (h : gN a i < gN b i) : natL a < natL b := by
 rw [natL_split a i (by omega), natL_split b i (by omega), natL_drop hi, natL_drop (show i < b.length by omega), hd]
 have h1 : natL (a.take i) < 4294967296 ^ i := by
  have := natL_lt (l := a.take i) (fun x hx => ha x (List.mem_of_mem_take hx))
  rwa [List.length_take, Nat.min_eq_left (by omega)] at this
 have h2 : 4294967296 ^ i * (gN a i + 1 + 4294967296 * natL (b.drop (i + 1))) ≤ 4294967296 ^ i * (gN b i + 4294967296 * natL (b.drop (i + 1))) := Nat.mul_le_mul_left _ (by omega)
 have h3 : 4294967296 ^ i * (gN a i + 1 + 4294967296 * natL (b.drop (i + 1))) = 4294967296 ^ i * (gN a i + 4294967296 * natL (b.drop (i + 1))) + 4294967296 ^ i := by
  rw [show gN a i + 1 + 4294967296 * natL (b.drop (i + 1)) = gN a i + 4294967296 * natL (b.drop (i + 1)) + 1 by omega, Nat.mul_add, Nat.mul_one]
 omega
theorem compare32_any (a b : Nat) (w : World) : Calls Tryz.prog 154 #[.int .u32 (a : Int), .int .u32 (b : Int)] w fun e w' => e = .returned (.int .i64 (cmpI a b)) ∧ w = w' := by
 rcases Nat.lt_trichotomy a b with h | h | h
 ·have h1 : (a : Int) < b := by omega
  have e : cmpI (a : Int) b = -1 := by unfold cmpI; rw [if_pos h1]
  rw [e]
  go_enter Tryz.func154, Tryz.ntmps154
  go_wp2
  all_goals
   go_ret
   exact ⟨rfl, rfl⟩
 ·subst h
  have e : cmpI (a : Int) a = 0 := by unfold cmpI; rw [if_neg (by omega), if_neg (by omega)]
  rw [e]
  go_enter Tryz.func154, Tryz.ntmps154
  go_wp2
  all_goals
   go_ret
   exact ⟨rfl, rfl⟩
 ·have h1 : ¬ (a : Int) < b := by omega
  have h2 : (b : Int) < a := by omega
  have e : cmpI (a : Int) b = 1 := by unfold cmpI; rw [if_neg h1, if_pos (by omega)]
  rw [e]
  go_enter Tryz.func154, Tryz.ntmps154
  go_wp2
  all_goals
   go_ret
   exact ⟨rfl, rfl⟩
theorem trimN_any (u : Value) (x : Nat) (w : World) (h : NatAt w u x) : Calls Tryz.prog 146 #[u] w (RetNt w x) := by
 obtain ⟨A, c, rfl, h1, h2, h3⟩ := h
 have ht := trim_any A _ c (limbs x) w h1 (limbs_ok x) rfl h2 h3
 rw [natL_limbs] at ht
 exact ht
theorem ncmp_any (u v : Value) (x y : Nat) (w : World) (hu : NatAt w u x) (hv : NatAt w v y) : Calls Tryz.prog 144 #[u, v] w fun e w' => e = .returned (.int .i64 (cmpI (x : Int) (y : Int))) ∧ Ext w w' := by
 have HU := Lib.hid (fun W (he : Ext w W) => trimN_any u x W (hu.ext he))
 have HV := Lib.hid (fun W (he : Ext w W) => trimN_any v y W (hv.ext he))
 obtain ⟨A0, c0, rfl, _⟩ := hu
 obtain ⟨B0, d0, rfl, _⟩ := hv
 obtain ⟨n0, hn0⟩ : ∃ n, n = (limbs x).length := ⟨_, rfl⟩
 obtain ⟨m0, hm0⟩ : ∃ n, n = (limbs y).length := ⟨_, rfl⟩
 rw [← hn0] at HU ⊢
 rw [← hm0] at HV ⊢
 clear hn0 hm0
 go_enter Tryz.func144, Tryz.ntmps144
 go_wp2_with fail
 refine (HU.out _ (Ext.refl _)).mono ?_
 rintro e w1 ⟨u1, rfl, hu1, he1⟩
 have HU1 := Lib.hid hu1; have HX1 := Lib.hid he1
 obtain ⟨A, c, rfl, _, hca, hca'⟩ := hu1
 clear he1 HU
 go_wp2_with fail
 refine (HV.out _ HX1.out).mono ?_
 rintro e w2 ⟨v1, rfl, hv1, he2⟩
 have HV1 := Lib.hid hv1; have HX2 := Lib.hid (HX1.out.trans he2); have HU2 := Lib.hid (HU1.out.ext he2)
 obtain ⟨B, d, rfl, _, hdb, hdb'⟩ := hv1
 clear he2 HV HU1
 obtain ⟨A', c', e1, hA, _⟩ := HU2.out
 obtain ⟨B', d', e2, hB, _⟩ := HV1.out
 injection e1 with e1 _ _
 injection e2 with e2 _ _
 subst e1 e2
 have HA := Lib.hid hA; have HB := Lib.hid hB
 clear hA hB HU2 HV1
 have HLT1 := Lib.hid (@limbs_len_lt x y); have HLT2 := Lib.hid (@limbs_len_lt y x)
 have HXN : Hid (natL (limbs x) = x) := natL_limbs x
 have HYN : Hid (natL (limbs y) = y) := natL_limbs y
 have HXK := Lib.hid (limbs_ok x); have HYK := Lib.hid (limbs_ok y)
 obtain ⟨a, ha⟩ : ∃ a, a = limbs x := ⟨_, rfl⟩
 obtain ⟨b, hb⟩ : ∃ b, b = limbs y := ⟨_, rfl⟩
 rw [← ha] at HA HXN HXK hca HLT1 HLT2 ⊢
 rw [← hb] at HB HYN HYK hdb HLT1 HLT2 ⊢
 clear ha hb
 obtain ⟨n, hn⟩ : ∃ n, n = a.length := ⟨_, rfl⟩
 obtain ⟨m, hm⟩ : ∃ m, m = b.length := ⟨_, rfl⟩
 have HN : Hid (a.length = n) := hn.symm
 have HM : Hid (b.length = m) := hm.symm
 rw [← hn] at hca HLT1 HLT2 ⊢
 rw [← hm] at hdb HLT1 HLT2 ⊢
 clear hn hm
 go_wp2_with fail
 refine (compare_any _ _ _).mono ?_
 rintro e w3 ⟨rfl, rfl⟩
 by_cases h1 : n < m
 ·have e1 : cmpI (n : Int) m = -1 := by unfold cmpI; rw [if_pos (by omega)]
  have e2 : cmpI (x : Int) y = -1 := by unfold cmpI; rw [if_pos (by have := HLT1.out h1; omega)]
  have E2 := Lib.hid e2
  rw [e1]
  clear e1 e2
  go_wp2_with fail
  go_ret
  exact ⟨ret_int E2.out.symm, HX2.out⟩
 by_cases h2 : m < n
 ·have e1 : cmpI (n : Int) m = 1 := by unfold cmpI; rw [if_neg (by omega), if_pos (by omega)]
  have e2 : cmpI (x : Int) y = 1 := by have := HLT2.out h2; unfold cmpI; rw [if_neg (by omega), if_pos (by omega)]
  have E2 := Lib.hid e2
  rw [e1]
  clear e1 e2
  go_wp2_with fail
  go_ret
  exact ⟨ret_int E2.out.symm, HX2.out⟩
 obtain rfl : n = m := by omega
 have e1 : cmpI (n : Int) n = 0 := by unfold cmpI; rw [if_neg (by omega), if_neg (by omega)]
 rw [e1]
 clear e1 h1 h2 HLT1 HLT2
 go_wp2_with fail
 go_loopw [6] (fun i wr => ∃ k : Nat, k ≤ n ∧ i = .int .i64 ((k : Int) - 1) ∧ natL (a.drop k) = natL (b.drop k) ∧ Ext w2 wr) (fun i _ => ((intOf i) + 1).toNat)
 case atStart => exact ⟨n, Nat.le_refl _, by go_num, by rw [List.drop_of_length_le (by rw [HN.out]; exact Nat.le_refl _), List.drop_of_length_le (by rw [HM.out]; exact Nat.le_refl _)], Ext.refl _⟩
 case round =>
  obtain ⟨k, hk, rfl, hd, hx⟩ := hrel
  have HD := Lib.hid hd; clear hd
  by_cases h0 : k = 0
  ·subst h0
   go_wp2_with fail
   go_ret
   refine ⟨?_, HX2.out.trans hx⟩
   have hxy : x = y := by have h := HD.out; simp only [List.drop_zero] at h; rw [HXN.out, HYN.out] at h; exact h
   subst hxy
   show _ = Ending.returned (.int .i64 (cmpI (x : Int) (x : Int)))
   rw [show cmpI (x : Int) (x : Int) = 0 from by unfold cmpI; rw [if_neg (by omega), if_neg (by omega)]]
   rfl
  ·obtain ⟨j, rfl⟩ : ∃ j, k = j + 1 := ⟨k - 1, by omega⟩
   obtain ⟨ba, oa, rfl, q0⟩ := (HA.out.ext hx) j (by rw [HN.out]; omega)
   obtain ⟨bb, ob, rfl, r0⟩ := (HB.out.ext hx) j (by rw [HM.out]; omega)
   have hj0 : (0 : Int) ≤ j := by omega
   have hj1 : (j : Int) < n := by omega
   have hje : ((j + 1 : Nat) : Int) - 1 = j := by omega
   rw [hje]
   obtain ⟨X, hX⟩ : ∃ X, X = gN a j := ⟨_, rfl⟩
   obtain ⟨Y, hY⟩ : ∃ Y, Y = gN b j := ⟨_, rfl⟩
   rw [← hX] at q0
   rw [← hY] at r0
   have HXE := Lib.hid hX; have HYE := Lib.hid hY
   clear hX hY
   obtain ⟨wq, rfl⟩ : ∃ wq : World, wq = wr := ⟨_, rfl⟩
   go_upto_region 8 with fail
   have keep : ∀ W1 : World, Ext wq W1 → (Ext wq W1 ∧ W1.cell? ⟨ba, oa + j, none⟩ = some (.int .u32 (X : Int)) ∧ W1.cell? ⟨bb, ob + j, none⟩ = some (.int .u32 (Y : Int))) := fun W1 h => ⟨h, h.cell q0, h.cell r0⟩
   have KEEP := Lib.hid keep
   clear keep q0 r0
   go_region_held3 (fun W1 => Ext wq W1 ∧ W1.cell? ⟨ba, oa + j, none⟩ = some (.int .u32 (X : Int)) ∧ W1.cell? ⟨bb, ob + j, none⟩ = some (.int .u32 (Y : Int)))
    (first | (with_reducible assumption) | (with_reducible exact KEEP.out _ (Ext.drew (Ext.refl _))) | fail)
    (first
     |(go_at_call 154; (with_reducible refine (compare32_any X Y _).mono ?_); rintro e wz ⟨rfl, rfl⟩)
     |fail)
   rcases Nat.lt_trichotomy X Y with h | h | h
   ·have hc : cmpI (X : Int) Y = -1 := by unfold cmpI; rw [if_pos (by omega)]
    have E2 : Hid (cmpI (x : Int) y = -1) := by
     have h3 := cmp_at (HN.out.trans HM.out.symm) HXK.out (i := j) (by rw [HN.out]; omega) HD.out (by rw [← HXE.out, ← HYE.out]; exact h)
     rw [HXN.out, HYN.out] at h3
     show _ = _
     unfold cmpI; rw [if_pos (by omega)]
    rw [hc]
    clear hc
    go_wp2_with fail
    go_ret
    exact ⟨ret_int E2.out.symm, HX2.out.trans (hx.trans (by first | assumption | exact (Ext.refl _).drew))⟩
   ·subst h
    have hc : cmpI (X : Int) X = 0 := by unfold cmpI; rw [if_neg (by omega), if_neg (by omega)]
    rw [hc]
    clear hc
    go_wp2_with fail
    go_roundw
    case rel =>
     refine ⟨j, by omega, by go_num, ?_, hx.trans (by first | assumption | exact (Ext.refl _).drew)⟩
     rw [natL_drop (l := a) (k := j) (by rw [HN.out]; omega), natL_drop (l := b) (k := j) (by rw [HM.out]; omega), HD.out, ← HXE.out, ← HYE.out]
    case measure => simp [intOf]
   ·have hc : cmpI (X : Int) Y = 1 := by unfold cmpI; rw [if_neg (by omega), if_pos (by omega)]
    have E2 : Hid (cmpI (x : Int) y = 1) := by
     have h3 := cmp_at (HM.out.trans HN.out.symm) HYK.out (i := j) (by rw [HM.out]; omega) HD.out.symm (by rw [← HXE.out, ← HYE.out]; exact h)
     rw [HXN.out, HYN.out] at h3
     show _ = _
     unfold cmpI; rw [if_neg (by omega), if_pos (by omega)]
    rw [hc]
    clear hc
    go_wp2_with fail
    go_ret
    exact ⟨ret_int E2.out.symm, HX2.out.trans (hx.trans (by first | assumption | exact (Ext.refl _).drew))⟩
theorem ret_u64 {a b : Int} (h : a = b) : Value.int .u64 a = .int .u64 b := by rw [h]
theorem make_cap (n : Nat) (hn : n ≤ 100000) (w : World) : (Instr.makeSlice 141 (.int .i64 0) (.int .i64 n)).run Tryz.prog w = .ok (.slice (some ⟨w.heap.size, 0, none⟩) 0 n) (w.alloc (.cells (ucells (List.replicate n 0)).toArray 192)) := by
 have h := run_make (P := Tryz.prog) w 141 192 (i := ((Tryz.prog.info? 192).getD default)) (z := .int .u32 0) Tryz.underlying141 (by kernel_rfl) (by kernel_rfl) .i64 .i64 (0 : Nat) n (by omega) (by omega) (by
  rw [show ((Tryz.prog.info? 192).getD default).bytes = 4 from by kernel_rfl]; omega) (by omega)
 rw [show ((Tryz.prog.info? 192).getD default).size = 1 from by kernel_rfl] at h
 rw [show (ucells (List.replicate n 0)).toArray = madeCells #[.int .u32 0] (n * 1) from by rw [made_one]; simp [ucells]]
 simpa [Value.cells] using h
set_option maxRecDepth 100000 in
set_option maxHeartbeats 1600000 in
theorem nadd_any (u v : Value) (x y : Nat) (w : World) (hu : NatAt w u x) (hv : NatAt w v y) (hx : (limbs x).length ≤ 1000) (hy : (limbs y).length ≤ 1000) : Calls Tryz.prog 150 #[u, v] w (RetNt w (x + y)) := by
 have HU := Lib.hid (fun W (he : Ext w W) => trimN_any u x W (hu.ext he))
 have HV := Lib.hid (fun W (he : Ext w W) => trimN_any v y W (hv.ext he))
 obtain ⟨A0, c0, rfl, _⟩ := hu
 obtain ⟨B0, d0, rfl, _⟩ := hv
 obtain ⟨n0, hn0⟩ : ∃ n, n = (limbs x).length := ⟨_, rfl⟩
 obtain ⟨m0, hm0⟩ : ∃ n, n = (limbs y).length := ⟨_, rfl⟩
 rw [← hn0] at HU ⊢
 rw [← hm0] at HV ⊢
 clear hn0 hm0
 obtain ⟨i0, hi0, hz0, hz1, hz2⟩ := info_parts lim_info
 go_enter Tryz.func150, Tryz.ntmps150
 go_wp2_with fail
 refine (HU.out _ (Ext.refl _)).mono ?_
 rintro e w1 ⟨u1, rfl, hu1, he1⟩
 have HU1 := Lib.hid hu1; have HX1 := Lib.hid he1
 obtain ⟨A, c, rfl, _, hca, hca'⟩ := hu1
 clear he1 HU
 go_wp2_with fail
 refine (HV.out _ HX1.out).mono ?_
 rintro e w2 ⟨v1, rfl, hv1, he2⟩
 have HV1 := Lib.hid hv1; have HX2 := Lib.hid (HX1.out.trans he2); have HU2 := Lib.hid (HU1.out.ext he2)
 obtain ⟨B, d, rfl, _, hdb, hdb'⟩ := hv1
 clear he2 HV HU1
 obtain ⟨A', c', e1, hA, _⟩ := HU2.out
 obtain ⟨B', d', e2, hB, _⟩ := HV1.out
 injection e1 with e1 _ _
 injection e2 with e2 _ _
 subst e1 e2
 have HA := Lib.hid hA; have HB := Lib.hid hB
 clear hA hB HU2 HV1
 have HXN : Hid (natL (limbs x) = x) := natL_limbs x
 have HYN : Hid (natL (limbs y) = y) := natL_limbs y
 have HXK := Lib.hid (limbs_ok x); have HYK := Lib.hid (limbs_ok y)
 obtain ⟨a, ha⟩ : ∃ a, a = limbs x := ⟨_, rfl⟩
 obtain ⟨b, hb⟩ : ∃ b, b = limbs y := ⟨_, rfl⟩
 rw [← ha] at HA HXN HXK hca hx ⊢
 rw [← hb] at HB HYN HYK hdb hy ⊢
 clear ha hb
 obtain ⟨n, hn⟩ : ∃ n, n = a.length := ⟨_, rfl⟩
 obtain ⟨m, hm⟩ : ∃ m, m = b.length := ⟨_, rfl⟩
 have HN : Hid (a.length = n) := hn.symm
 have HM : Hid (b.length = m) := hm.symm
 rw [← hn] at hca hx ⊢
 rw [← hm] at hdb hy ⊢
 clear hn hm
 by_cases hnm : n < m
 ·have hmk : ∀ W : World, (Instr.makeSlice 141 (.int .i64 0) (.int .i64 ((m : Int) + 1))).run Tryz.prog W = .ok (.slice (some ⟨W.heap.size, 0, none⟩) 0 (m + 1)) (W.alloc (.cells (ucells (List.replicate (m + 1) 0)).toArray 192)) := fun W => by rw [show ((m : Int) + 1) = ((m + 1 : Nat) : Int) by omega]; exact make_cap _ (by omega) W
  go_wp2_with fail
  refine wp_at fun w3 hw3 => ?_
  have HX3 : Hid (Ext w2 w3) := by show Ext _ _; rw [hw3]; exact (Ext.refl _).alloc _
  have HR3 : Hid (OwnU w3 w2.heap.size (.slice (some ⟨w2.heap.size, 0, none⟩) 0 (m + 1)) []) := by
   show OwnU _ _ _ _
   rw [hw3]
   exact blk_own (xs := []) (R := ucells (List.replicate (m + 1) 0)) (Blk.new _ _ _) (Nat.le_refl _) rfl (by omega) (by omega) (by rw [ucells_length]; simp)
  clear hw3 hmk
  go_loopw [5, 6, 26] (fun v ca i wr => ∃ (k c : Nat) (r : List Nat), k ≤ m ∧ i = .int .i64 k ∧ ca = .int .u64 (c : Int) ∧ OwnU wr w2.heap.size v r ∧ AddI b a r k c ∧ Ext w2 wr) (fun _ _ i _ => m - (intOf i).toNat)
  case atStart => exact ⟨0, 0, [], Nat.zero_le _, rfl, rfl, HR3.out, AddI.zero _ _, HX3.out⟩
  case round =>
   obtain ⟨k, c, r, hk, rfl, rfl, ho, hai, hx⟩ := hrel
   have HO := Lib.hid ho; have HI := Lib.hid hai; have HX := Lib.hid hx
   have hc1 : c ≤ 1 := hai.c1
   obtain ⟨V, vc, hv, _, _, _⟩ := ho.slice
   have HRL : Hid (r.length = k) := hai.len
   rw [hai.len] at hv
   subst hv
   clear ho hai hx
   have HO' : Hid (wr.ownsRow w2.heap.size 192 1 (.slice V k vc) k (ucells r)) := by have h := HO.out; unfold OwnU at h; rw [HRL.out] at h; exact h
   by_cases hlt : k < m
   ·obtain ⟨ba, oa, rfl, q0⟩ := (HB.out.ext HX.out) k (by rw [HM.out]; exact hlt)
    have hk0 : (0 : Int) ≤ k := by omega
    have hk1 : (k : Int) < m := by omega
    have hXb := gN_lt HYK.out k
    have hYb := gN_lt HXK.out k
    have HST := Lib.hid (HI.out.step HYK.out HXK.out)
    have HY0 : Hid (n ≤ k → gN a k = 0) := fun h => by simp [gN, show a.length ≤ k by rw [HN.out]; exact h]
    obtain ⟨X, hX⟩ : ∃ X, X = gN b k := ⟨_, rfl⟩
    obtain ⟨Y, hY⟩ : ∃ Y, Y = gN a k := ⟨_, rfl⟩
    rw [← hX] at q0 hXb HST
    rw [← hY] at hYb HST HY0
    have HYE := Lib.hid hY
    clear hX hY
    have hw1 : IntKind.u64.wrap ((c : Int) + (X : Int)) = (c : Int) + X := IntWalk.u64_in _ (by omega)
    have hw2 : IntKind.u64.wrap (X : Int) = (X : Int) := IntWalk.u64_in _ (by omega)
    by_cases hm : k < n
    ·obtain ⟨bb, ob, rfl, r0⟩ := (HA.out.ext HX.out) k (by rw [HN.out]; exact hm)
     rw [← HYE.out] at r0
     have hk2 : (k : Int) < n := by omega
     have hw3 : IntKind.u64.wrap ((c : Int) + (X : Int) + (Y : Int)) = (c : Int) + X + Y := IntWalk.u64_in _ (by omega)
     have hw4 : IntKind.u64.wrap (Y : Int) = (Y : Int) := IntWalk.u64_in _ (by omega)
     go_wp2_with (at_builtin; refine wpList_append_own _ rfl (.tmp 46) (.tmp 49) 141 rfl w2.heap.size 192 i0 (.int .u32 0) 1 4 Tryz.underlying141 hi0 hz0 hz1 hz2 rfl (by decide) (.slice V k vc) k (ucells r) rfl (World.ownsRow.alloc HO'.out _) ⟨wr.heap.size, 0, none⟩ 1 1 [.int .u32 (((c : Int) + (X : Int) + (Y : Int)) % 4294967296)] rfl ?zc1 ?zc2 ?zc3 ?zc4 ?zc5 ?zc6 ?_)
     case zc1 => rfl
     case zc2 => exact World.news_of_block (cs := #[.int .u32 (((c : Int) + (X : Int) + (Y : Int)) % 4294967296)]) (t := 192) (fr := (0, 0)) (heap_alloc_new wr _)
     case zc3 => simp [Value.oneCell']
     case zc4 => unfold maxLen; omega
     case zc5 => omega
     case zc6 => have := HX.out.size; simp; omega
     intro v' w4 hown' hgrow _
     have HO4 : Hid (OwnU w4 w2.heap.size v' (r ++ [(c + X + Y) % 4294967296])) := by
      show OwnU _ _ _ _
      unfold OwnU
      rw [List.length_append, ucells_append, HRL.out]
      have e : (((c + X + Y) % 4294967296 : Nat) : Int) = ((c : Int) + (X : Int) + (Y : Int)) % 4294967296 := by omega
      rw [show ucells [(c + X + Y) % 4294967296] = [.int .u32 (((c : Int) + (X : Int) + (Y : Int)) % 4294967296)] from by simp only [ucells, List.map_cons, List.map_nil, e]]
      exact hown'
     have HX4 : Hid (Ext w2 w4) := (HX.out.alloc _).grown hgrow (fun g hg => (World.ownsRow.lt HO'.out g hg).1)
     clear hown' hgrow
     go_wp2_with fail
     go_roundw
     case rel => exact ⟨k + 1, (c + X + Y) / 4294967296, _, by omega, by go_num, ret_u64 (by omega), HO4.out, HST.out, HX4.out⟩
     case measure => simp [intOf]; omega
    ·obtain rfl : Y = 0 := HY0.out (by omega)
     have hk2 : ¬ (k : Int) < n := by omega
     go_wp2_with (at_builtin; refine wpList_append_own _ rfl (.tmp 46) (.tmp 49) 141 rfl w2.heap.size 192 i0 (.int .u32 0) 1 4 Tryz.underlying141 hi0 hz0 hz1 hz2 rfl (by decide) (.slice V k vc) k (ucells r) rfl (World.ownsRow.alloc HO'.out _) ⟨wr.heap.size, 0, none⟩ 1 1 [.int .u32 (((c : Int) + (X : Int)) % 4294967296)] rfl ?zg1 ?zg2 ?zg3 ?zg4 ?zg5 ?zg6 ?_)
     case zg3 => simp [Value.oneCell']
     case zg4 => unfold maxLen; omega
     case zg5 => omega
     case zg6 => have := HX.out.size; simp; omega
     intro v' w4 hown' hgrow _
     have HO4 : Hid (OwnU w4 w2.heap.size v' (r ++ [(c + X + 0) % 4294967296])) := by
      show OwnU _ _ _ _
      unfold OwnU
      rw [List.length_append, ucells_append, HRL.out]
      have e : (((c + X + 0) % 4294967296 : Nat) : Int) = ((c : Int) + (X : Int)) % 4294967296 := by omega
      rw [show ucells [(c + X + 0) % 4294967296] = [.int .u32 (((c : Int) + (X : Int)) % 4294967296)] from by simp only [ucells, List.map_cons, List.map_nil, e]]
      exact hown'
     have HX4 : Hid (Ext w2 w4) := (HX.out.alloc _).grown hgrow (fun g hg => (World.ownsRow.lt HO'.out g hg).1)
     clear hown' hgrow
     go_wp2_with fail
     go_roundw
     case rel => exact ⟨k + 1, (c + X + 0) / 4294967296, _, by omega, by go_num, ret_u64 (by omega), HO4.out, HST.out, HX4.out⟩
     case measure => simp [intOf]; omega
   ·obtain rfl : k = m := by omega
    go_wp2_with (at_builtin; refine wpList_append_own _ rfl (.tmp 54) (.tmp 57) 141 rfl w2.heap.size 192 i0 (.int .u32 0) 1 4 Tryz.underlying141 hi0 hz0 hz1 hz2 rfl (by decide) (.slice V k vc) k (ucells r) rfl (World.ownsRow.alloc HO'.out _) ⟨wr.heap.size, 0, none⟩ 1 1 [.int .u32 ((c : Int))] rfl ?zh1 ?zh2 ?zh3 ?zh4 ?zh5 ?zh6 ?_)
    case zh1 => rfl
    case zh2 => exact World.news_of_block (cs := #[.int .u32 (c : Int)]) (t := 192) (fr := (0, 0)) (heap_alloc_new wr _)
    case zh3 => simp [Value.oneCell']
    case zh4 => unfold maxLen; omega
    case zh5 => omega
    case zh6 => have := HX.out.size; simp; omega
    intro v' w4 hown' hgrow _
    have HO4 : Hid (OwnU w4 w2.heap.size v' (r ++ [c])) := by
     show OwnU _ _ _ _
     unfold OwnU
     rw [List.length_append, ucells_append, HRL.out]
     exact hown'
    have HX4 : Hid (Ext w2 w4) := (HX.out.alloc _).grown hgrow (fun g hg => (World.ownsRow.lt HO'.out g hg).1)
    clear hown' hgrow
    obtain ⟨V4, v4c, hv4, hL4, h5, h6⟩ := HO4.out.slice
    have hlen : (r ++ [c]).length = k + 1 := by rw [List.length_append, HRL.out]; rfl
    rw [hlen] at hv4 h5
    have hT := trim_any V4 (k + 1) v4c (r ++ [c]) w4 hL4 (limOk_snoc HI.out.ok (by omega)) hlen h5 h6
    have hS := (show AddI b a r b.length c from by rw [HM.out]; exact HI.out).done (by rw [HM.out, HN.out]; omega)
    rw [hS, HYN.out, HXN.out] at hT
    subst hv4
    have HT4 := Lib.hid hT
    clear hL4 h5 h6 hT hS hlen
    go_wp2_with fail
    refine (HT4.out).mono ?_
    rintro e w5 ⟨v5, rfl, hv5, he5⟩
    go_wp2_with fail
    go_ret
    exact ⟨v5, rfl, (by rw [Nat.add_comm]; exact hv5), HX2.out.trans (HX4.out.trans he5)⟩
 have hmk : ∀ W : World, (Instr.makeSlice 141 (.int .i64 0) (.int .i64 ((n : Int) + 1))).run Tryz.prog W = .ok (.slice (some ⟨W.heap.size, 0, none⟩) 0 (n + 1)) (W.alloc (.cells (ucells (List.replicate (n + 1) 0)).toArray 192)) := fun W => by rw [show ((n : Int) + 1) = ((n + 1 : Nat) : Int) by omega]; exact make_cap _ (by omega) W
 go_wp2_with fail
 refine wp_at fun w3 hw3 => ?_
 have HX3 : Hid (Ext w2 w3) := by show Ext _ _; rw [hw3]; exact (Ext.refl _).alloc _
 have HR3 : Hid (OwnU w3 w2.heap.size (.slice (some ⟨w2.heap.size, 0, none⟩) 0 (n + 1)) []) := by
  show OwnU _ _ _ _
  rw [hw3]
  exact blk_own (xs := []) (R := ucells (List.replicate (n + 1) 0)) (Blk.new _ _ _) (Nat.le_refl _) rfl (by omega) (by omega) (by rw [ucells_length]; simp)
 clear hw3 hmk
 go_loopw [5, 6, 26] (fun v ca i wr => ∃ (k c : Nat) (r : List Nat), k ≤ n ∧ i = .int .i64 k ∧ ca = .int .u64 (c : Int) ∧ OwnU wr w2.heap.size v r ∧ AddI a b r k c ∧ Ext w2 wr) (fun _ _ i _ => n - (intOf i).toNat)
 case atStart => exact ⟨0, 0, [], Nat.zero_le _, rfl, rfl, HR3.out, AddI.zero _ _, HX3.out⟩
 case round =>
  obtain ⟨k, c, r, hk, rfl, rfl, ho, hai, hx⟩ := hrel
  have HO := Lib.hid ho; have HI := Lib.hid hai; have HX := Lib.hid hx
  have hc1 : c ≤ 1 := hai.c1
  obtain ⟨V, vc, hv, _, _, _⟩ := ho.slice
  have HRL : Hid (r.length = k) := hai.len
  rw [hai.len] at hv
  subst hv
  clear ho hai hx
  have HO' : Hid (wr.ownsRow w2.heap.size 192 1 (.slice V k vc) k (ucells r)) := by have h := HO.out; unfold OwnU at h; rw [HRL.out] at h; exact h
  by_cases hlt : k < n
  ·obtain ⟨ba, oa, rfl, q0⟩ := (HA.out.ext HX.out) k (by rw [HN.out]; exact hlt)
   have hk0 : (0 : Int) ≤ k := by omega
   have hk1 : (k : Int) < n := by omega
   have hXb := gN_lt HXK.out k
   have hYb := gN_lt HYK.out k
   have HST := Lib.hid (HI.out.step HXK.out HYK.out)
   have HY0 : Hid (m ≤ k → gN b k = 0) := fun h => by simp [gN, show b.length ≤ k by rw [HM.out]; exact h]
   obtain ⟨X, hX⟩ : ∃ X, X = gN a k := ⟨_, rfl⟩
   obtain ⟨Y, hY⟩ : ∃ Y, Y = gN b k := ⟨_, rfl⟩
   rw [← hX] at q0 hXb HST
   rw [← hY] at hYb HST HY0
   have HYE := Lib.hid hY
   clear hX hY
   have hw1 : IntKind.u64.wrap ((c : Int) + (X : Int)) = (c : Int) + X := IntWalk.u64_in _ (by omega)
   have hw2 : IntKind.u64.wrap (X : Int) = (X : Int) := IntWalk.u64_in _ (by omega)
   by_cases hm : k < m
   ·obtain ⟨bb, ob, rfl, r0⟩ := (HB.out.ext HX.out) k (by rw [HM.out]; exact hm)
    rw [← HYE.out] at r0
    have hk2 : (k : Int) < m := by omega
    have hw3 : IntKind.u64.wrap ((c : Int) + (X : Int) + (Y : Int)) = (c : Int) + X + Y := IntWalk.u64_in _ (by omega)
    have hw4 : IntKind.u64.wrap (Y : Int) = (Y : Int) := IntWalk.u64_in _ (by omega)
    go_wp2_with (at_builtin; refine wpList_append_own _ rfl (.tmp 46) (.tmp 49) 141 rfl w2.heap.size 192 i0 (.int .u32 0) 1 4 Tryz.underlying141 hi0 hz0 hz1 hz2 rfl (by decide) (.slice V k vc) k (ucells r) rfl (World.ownsRow.alloc HO'.out _) ⟨wr.heap.size, 0, none⟩ 1 1 [.int .u32 (((c : Int) + (X : Int) + (Y : Int)) % 4294967296)] rfl ?c1 ?c2 ?c3 ?c4 ?c5 ?c6 ?_)
    case c1 => rfl
    case c2 => exact World.news_of_block (cs := #[.int .u32 (((c : Int) + (X : Int) + (Y : Int)) % 4294967296)]) (t := 192) (fr := (0, 0)) (heap_alloc_new wr _)
    case c3 => simp [Value.oneCell']
    case c4 => unfold maxLen; omega
    case c5 => omega
    case c6 => have := HX.out.size; simp; omega
    intro v' w4 hown' hgrow _
    have HO4 : Hid (OwnU w4 w2.heap.size v' (r ++ [(c + X + Y) % 4294967296])) := by
     show OwnU _ _ _ _
     unfold OwnU
     rw [List.length_append, ucells_append, HRL.out]
     have e : (((c + X + Y) % 4294967296 : Nat) : Int) = ((c : Int) + (X : Int) + (Y : Int)) % 4294967296 := by omega
     rw [show ucells [(c + X + Y) % 4294967296] = [.int .u32 (((c : Int) + (X : Int) + (Y : Int)) % 4294967296)] from by simp only [ucells, List.map_cons, List.map_nil, e]]
     exact hown'
    have HX4 : Hid (Ext w2 w4) := (HX.out.alloc _).grown hgrow (fun g hg => (World.ownsRow.lt HO'.out g hg).1)
    clear hown' hgrow
    go_wp2_with fail
    go_roundw
    case rel => exact ⟨k + 1, (c + X + Y) / 4294967296, _, by omega, by go_num, ret_u64 (by omega), HO4.out, HST.out, HX4.out⟩
    case measure => simp [intOf]; omega
   ·obtain rfl : Y = 0 := HY0.out (by omega)
    have hk2 : ¬ (k : Int) < m := by omega
    go_wp2_with (at_builtin; refine wpList_append_own _ rfl (.tmp 46) (.tmp 49) 141 rfl w2.heap.size 192 i0 (.int .u32 0) 1 4 Tryz.underlying141 hi0 hz0 hz1 hz2 rfl (by decide) (.slice V k vc) k (ucells r) rfl (World.ownsRow.alloc HO'.out _) ⟨wr.heap.size, 0, none⟩ 1 1 [.int .u32 (((c : Int) + (X : Int)) % 4294967296)] rfl ?g1 ?g2 ?g3 ?g4 ?g5 ?g6 ?_)
    case g3 => simp [Value.oneCell']
    case g4 => unfold maxLen; omega
    case g5 => omega
    case g6 => have := HX.out.size; simp; omega
    intro v' w4 hown' hgrow _
    have HO4 : Hid (OwnU w4 w2.heap.size v' (r ++ [(c + X + 0) % 4294967296])) := by
     show OwnU _ _ _ _
     unfold OwnU
     rw [List.length_append, ucells_append, HRL.out]
     have e : (((c + X + 0) % 4294967296 : Nat) : Int) = ((c : Int) + (X : Int)) % 4294967296 := by omega
     rw [show ucells [(c + X + 0) % 4294967296] = [.int .u32 (((c : Int) + (X : Int)) % 4294967296)] from by simp only [ucells, List.map_cons, List.map_nil, e]]
     exact hown'
    have HX4 : Hid (Ext w2 w4) := (HX.out.alloc _).grown hgrow (fun g hg => (World.ownsRow.lt HO'.out g hg).1)
    clear hown' hgrow
    go_wp2_with fail
    go_roundw
    case rel => exact ⟨k + 1, (c + X + 0) / 4294967296, _, by omega, by go_num, ret_u64 (by omega), HO4.out, HST.out, HX4.out⟩
    case measure => simp [intOf]; omega
  ·obtain rfl : k = n := by omega
   go_wp2_with (at_builtin; refine wpList_append_own _ rfl (.tmp 54) (.tmp 57) 141 rfl w2.heap.size 192 i0 (.int .u32 0) 1 4 Tryz.underlying141 hi0 hz0 hz1 hz2 rfl (by decide) (.slice V k vc) k (ucells r) rfl (World.ownsRow.alloc HO'.out _) ⟨wr.heap.size, 0, none⟩ 1 1 [.int .u32 ((c : Int))] rfl ?h1 ?h2 ?h3 ?h4 ?h5 ?h6 ?_)
   case h1 => rfl
   case h2 => exact World.news_of_block (cs := #[.int .u32 (c : Int)]) (t := 192) (fr := (0, 0)) (heap_alloc_new wr _)
   case h3 => simp [Value.oneCell']
   case h4 => unfold maxLen; omega
   case h5 => omega
   case h6 => have := HX.out.size; simp; omega
   intro v' w4 hown' hgrow _
   have HO4 : Hid (OwnU w4 w2.heap.size v' (r ++ [c])) := by
    show OwnU _ _ _ _
    unfold OwnU
    rw [List.length_append, ucells_append, HRL.out]
    exact hown'
   have HX4 : Hid (Ext w2 w4) := (HX.out.alloc _).grown hgrow (fun g hg => (World.ownsRow.lt HO'.out g hg).1)
   clear hown' hgrow
   obtain ⟨V4, v4c, hv4, hL4, h5, h6⟩ := HO4.out.slice
   have hlen : (r ++ [c]).length = k + 1 := by rw [List.length_append, HRL.out]; rfl
   rw [hlen] at hv4 h5
   have hT := trim_any V4 (k + 1) v4c (r ++ [c]) w4 hL4 (limOk_snoc HI.out.ok (by omega)) hlen h5 h6
   have hS := (show AddI a b r a.length c from by rw [HN.out]; exact HI.out).done (by rw [HN.out, HM.out]; omega)
   rw [hS, HXN.out, HYN.out] at hT
   subst hv4
   have HT4 := Lib.hid hT
   clear hL4 h5 h6 hT hS hlen
   go_wp2_with fail
   refine (HT4.out).mono ?_
   rintro e w5 ⟨v5, rfl, hv5, he5⟩
   go_wp2_with fail
   go_ret
   exact ⟨v5, rfl, hv5, HX2.out.trans (HX4.out.trans he5)⟩
end Go.Proofs.YtfegbaokcbjllaaGreat
