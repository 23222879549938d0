/- rows of pairs and of numbers that are written in place; blocks as a whole; what a call keeps but for some blocks -/
import Derived.Test.YtfegbaokcbjllaaGreatKOwnI
namespace Go.Proofs.YtfegbaokcbjllaaGreat
open Go.RowKit
/- a block as a whole -/
def Blk (t : TypeId) (w : World) (g : Nat) (cs : List Value) : Prop := w.heap[g]? = some (.cells cs.toArray t (0, 0))
theorem heap_lt {w : World} {g : Nat} {o : Obj} (h : w.heap[g]? = some o) : g < w.heap.size := by
 rcases Nat.lt_or_ge g w.heap.size with hl | hl
 ·exact hl
 ·rw [Array.getElem?_eq_none hl] at h; cases h
theorem Blk.lt {t : TypeId} {w : World} {g : Nat} {cs : List Value} (h : Blk t w g cs) : g < w.heap.size := heap_lt h
theorem Blk.cell {t : TypeId} {w : World} {g : Nat} {cs : List Value} (h : Blk t w g cs) (j : Nat) : w.cell? ⟨g, j, none⟩ = cs[j]? := by
 unfold Blk at h
 simp [World.cell?, h]
theorem Blk.frozen {t : TypeId} {w : World} {g : Nat} {cs : List Value} (h : Blk t w g cs) (j : Nat) : w.frozen? ⟨g, j, none⟩ = false := by
 unfold Blk at h
 simp [World.frozen?, h]
theorem Blk.set {t : TypeId} {w : World} {g : Nat} {cs : List Value} (h : Blk t w g cs) (j : Nat) (u : Value) : Blk t (w.setCell ⟨g, j, none⟩ u) g (cs.set j u) := by
 unfold Blk at h ⊢
 simp [World.setCell, Array.getElem?_modify, h]
theorem Blk.other {t : TypeId} {w : World} {g : Nat} {cs : List Value} (h : Blk t w g cs) {p : Addr} (hp : g ≠ p.block) (u : Value) : Blk t (w.setCell p u) g cs := (Below.heap_setCell w p u g hp).trans h
theorem Blk.ext {t : TypeId} {w w' : World} {g : Nat} {cs : List Value} (h : Blk t w g cs) (he : Ext w w') : Blk t w' g cs := (Below.block he g h.lt).trans h
theorem Blk.new (t : TypeId) (w : World) (cs : List Value) : Blk t (w.alloc (.cells cs.toArray t)) w.heap.size cs := by
 unfold Blk; show (w.heap.push _)[w.heap.size]? = _; simp
theorem Blk.ne {t t' : TypeId} {w : World} {g g' : Nat} {cs cs' : List Value} (h : Blk t w g cs) (h' : Blk t' w g' cs') (hne : t ≠ t') : g ≠ g' := by
 rintro rfl
 unfold Blk at h h'
 rw [h] at h'
 injection h' with h'
 injection h' with _ ht
 exact hne ht
/- what a call keeps but for the blocks of K -/
structure Kept (K : Nat → Prop) (w w' : World) : Prop where
 os : w'.os = w.os
 tape : w'.tape = w.tape
 output : w'.output = w.output
 size : w.heap.size ≤ w'.heap.size
 block : ∀ k, k < w.heap.size → ¬ K k → w'.heap[k]? = w.heap[k]?
theorem Kept.refl (K : Nat → Prop) (w : World) : Kept K w w := ⟨rfl, rfl, rfl, Nat.le_refl _, fun _ _ _ => rfl⟩
theorem Ext.kept {w w' : World} (h : Ext w w') (K : Nat → Prop) : Kept K w w' := ⟨h.os, h.tape, h.output, Ext.size h, fun k hk _ => Below.block h k hk⟩
theorem Kept.trans {K : Nat → Prop} {a b c : World} (h : Kept K a b) (k : Kept K b c) : Kept K a c :=
 ⟨k.os.trans h.os, k.tape.trans h.tape, k.output.trans h.output, Nat.le_trans h.size k.size, fun i hi hn => (k.block i (Nat.lt_of_lt_of_le hi h.size) hn).trans (h.block i hi hn)⟩
theorem Kept.mono {K K' : Nat → Prop} {a b : World} (h : Kept K a b) (hk : ∀ k, k < a.heap.size → K k → K' k) : Kept K' a b := ⟨h.os, h.tape, h.output, h.size, fun i hi hn => h.block i hi fun q => hn (hk i hi q)⟩
theorem Kept.set {K : Nat → Prop} {a b : World} (h : Kept K a b) {p : Addr} (hp : a.heap.size ≤ p.block ∨ K p.block) (u : Value) : Kept K a (b.setCell p u) :=
 ⟨h.os, h.tape, h.output, by simpa [World.setCell] using h.size, fun i hi hn => (Below.heap_setCell b p u i (by rintro rfl; rcases hp with hp | hp; omega; exact hn hp)).trans (h.block i hi hn)⟩
theorem Kept.alloc {K : Nat → Prop} {a b : World} (h : Kept K a b) (o : Obj) : Kept K a (b.alloc o) := h.trans (((Ext.refl b).alloc o).kept K)
theorem Kept.drew {K : Nat → Prop} {a b : World} (h : Kept K a b) : Kept K a b.drew := ⟨h.os, h.tape, h.output, h.size, h.block⟩
theorem Kept.blk {K : Nat → Prop} {a b : World} (h : Kept K a b) {t : TypeId} {g : Nat} {cs : List Value} (hb : Blk t a g cs) (hk : ¬ K g) : Blk t b g cs := (h.block g hb.lt hk).trans hb
theorem Kept.ext {K : Nat → Prop} {z a b : World} (h : Kept K a b) (he : Ext z a) (hk : ∀ k, K k → z.heap.size ≤ k) : Ext z b :=
 ⟨h.os.trans he.os, h.tape.trans he.tape, h.output.trans he.output, Nat.le_trans (Ext.size he) h.size, fun i hi => (h.block i (Nat.lt_of_lt_of_le hi (Ext.size he)) (fun q => by have := hk i q; omega)).trans (Below.block he i hi)⟩
theorem own_kept {K : Nat → Prop} {w w' : World} {base : Nat} {e : TypeId} {size : Nat} {v : Value} {n : Nat} {xs : List Value} (h : w.ownsRow base e size v n xs) (he : Kept K w w') (hk : ∀ k, v.ownBlock = some k → ¬ K k) : w'.ownsRow base e size v n xs := by
 refine ⟨h.1, ?_⟩
 rcases h.2 with h0 | ⟨g, cap, cur, hv, hb, hh, r⟩
 ·exact .inl h0
 ·refine .inr ⟨g, cap, cur, hv, hb, ?_, r⟩
  rw [he.block g (heap_lt hh) (hk g (by rw [hv]; rfl))]; exact hh
theorem own_set {w : World} {base : Nat} {e : TypeId} {size : Nat} {v : Value} {n : Nat} {xs : List Value} (h : w.ownsRow base e size v n xs) {p : Addr} (hp : v.ownBlock ≠ some p.block) (u : Value) : (w.setCell p u).ownsRow base e size v n xs := by
 refine ⟨h.1, ?_⟩
 rcases h.2 with h0 | ⟨g, cap, cur, hv, hb, hh, r⟩
 ·exact .inl h0
 ·refine .inr ⟨g, cap, cur, hv, hb, ?_, r⟩
  rw [Below.heap_setCell w p u g (by rintro rfl; exact hp (by rw [hv]; rfl))]; exact hh
/- a row of cells of whatever size: its block -/
theorem own_blk {w : World} {base : Nat} {t : TypeId} {size : Nat} {A : Option Addr} {n cap m : Nat} {xs : List Value} (h : w.ownsRow base t size (.slice A n cap) m xs) (hn : 0 < n) :
  ∃ g R, A = some ⟨g, 0, none⟩ ∧ m = n ∧ base ≤ g ∧ Blk t w g (xs ++ R) ∧ n ≤ cap ∧ cap ≤ 9223372036854775807 ∧ xs.length + R.length = cap * size := by
 rcases h.2 with ⟨e, h0⟩ | ⟨g, cap', cur, e, hb, hh, hl, hm, hs, ht⟩
 ·injection e with e1 e2 e3; omega
 ·injection e with e1 e2 e3
  subst e1; subst e2; subst e3
  refine ⟨g, cur.toList.drop (n * size), rfl, rfl, hb, ?_, hl, hm, ?_⟩
  ·unfold Blk; rw [← ht, List.take_append_drop]; exact hh
  ·rw [h.1, List.length_drop]
   have : cur.toList.length = cap * size := by simpa using hs
   have h2 : n * size ≤ cap * size := Nat.mul_le_mul_right _ hl
   omega
theorem blk_own {w : World} {base : Nat} {t : TypeId} {size g n cap : Nat} {xs R : List Value} (h : Blk t w g (xs ++ R)) (hb : base ≤ g) (hx : xs.length = n * size) (hn : n ≤ cap) (hm : cap ≤ 9223372036854775807) (hs : xs.length + R.length = cap * size) :
  w.ownsRow base t size (.slice (some ⟨g, 0, none⟩) n cap) n xs :=
 ⟨hx, .inr ⟨g, cap, (xs ++ R).toArray, rfl, hb, h, hn, hm, by simp; omega, by simp [← hx]⟩⟩
/- pairs -/
def OwnT (t : TypeId) (w : World) (base : Nat) (v : Value) (l : List Spot) : Prop := w.ownsRow base t 2 v l.length (scells l)
theorem pair_cells {t : TypeId} {w : World} {g : Nat} {L : List Spot} {R : List Value} (h : Blk t w g (scells L ++ R)) {k : Nat} (hk : k < L.length) :
  w.cell? ⟨g, k * 2, none⟩ = some (.int .i64 (gS L k).1) ∧ w.cell? ⟨g, k * 2 + 1, none⟩ = some (.int .i64 (gS L k).2) ∧ w.frozen? ⟨g, k * 2, none⟩ = false ∧ w.frozen? ⟨g, k * 2 + 1, none⟩ = false := by
 refine ⟨?_, ?_, h.frozen _, h.frozen _⟩
 ·rw [h.cell, List.getElem?_append_left (by rw [scells_length]; omega), scells_even, List.getElem?_eq_getElem hk, gS_eq hk]; rfl
 ·rw [h.cell, List.getElem?_append_left (by rw [scells_length]; omega), scells_odd, List.getElem?_eq_getElem hk, gS_eq hk]; rfl
theorem pair_set {t : TypeId} {w : World} {g : Nat} {L : List Spot} {R : List Value} (h : Blk t w g (scells L ++ R)) {k : Nat} (hk : k < L.length) (s : Spot) :
  Blk t ((w.setCell ⟨g, k * 2, none⟩ (.int .i64 s.1)).setCell ⟨g, k * 2 + 1, none⟩ (.int .i64 s.2)) g (scells (L.set k s) ++ R) := by
 have h1 := (h.set (k * 2) (.int .i64 s.1)).set (k * 2 + 1) (.int .i64 s.2)
 have e : ((scells L).set (k * 2) (.int .i64 s.1)).set (k * 2 + 1) (.int .i64 s.2) ++ R = ((scells L ++ R).set (k * 2) (.int .i64 s.1)).set (k * 2 + 1) (.int .i64 s.2) := by
  rw [List.set_append_left _ _ (by rw [scells_length]; omega), List.set_append_left _ _ (by rw [List.length_set, scells_length]; omega)]
 rw [← e, scells_set] at h1
 exact h1
/- one pair of an owned row set: the row, the cells' facts, what is kept -/
theorem own_pair {t : TypeId} {w : World} {base : Nat} {A : Option Addr} {n cap : Nat} {L : List Spot} (h : OwnT t w base (.slice A n cap) L) {k : Nat} (hk : k < n) :
  ∃ g, A = some ⟨g, 0, none⟩ ∧ base ≤ g ∧ L.length = n ∧ (∃ cs, Blk t w g cs) ∧ w.cell? ⟨g, k * 2, none⟩ = some (.int .i64 (gS L k).1) ∧ w.cell? ⟨g, k * 2 + 1, none⟩ = some (.int .i64 (gS L k).2) ∧ w.frozen? ⟨g, k * 2, none⟩ = false ∧ w.frozen? ⟨g, k * 2 + 1, none⟩ = false ∧
   ∀ s : Spot, OwnT t ((w.setCell ⟨g, k * 2, none⟩ (.int .i64 s.1)).setCell ⟨g, k * 2 + 1, none⟩ (.int .i64 s.2)) base (.slice A n cap) (L.set k s) := by
 obtain ⟨g, R, rfl, hl, hb, hB, h1, h2, h3⟩ := own_blk h (by omega)
 obtain ⟨c0, c1, f0, f1⟩ := pair_cells hB (k := k) (by omega)
 refine ⟨g, rfl, hb, hl, ⟨_, hB⟩, c0, c1, f0, f1, fun s => ?_⟩
 have h4 := pair_set hB (k := k) (by omega) s
 unfold OwnT
 rw [List.length_set, hl]
 refine blk_own h4 hb ?_ h1 h2 ?_
 ·rw [scells_length, List.length_set, hl]
 ·rw [scells_length, List.length_set, ← scells_length]; exact h3
/- numbers -/
theorem icells_length (l : List Int) : (icells l).length = l.length := by simp [icells]
theorem icells_get {l : List Int} {k : Nat} (hk : k < l.length) : (icells l)[k]? = some (.int .i64 (gI l k)) := by rw [gI_eq hk]; simp [icells, hk]
theorem icells_set (l : List Int) (k : Nat) (x : Int) : (icells l).set k (.int .i64 x) = icells (l.set k x) := by simp [icells, List.map_set]
theorem own_int {w : World} {base : Nat} {A : Option Addr} {n cap : Nat} {L : List Int} (h : OwnI w base (.slice A n cap) L) {k : Nat} (hk : k < n) :
  ∃ g, A = some ⟨g, 0, none⟩ ∧ base ≤ g ∧ L.length = n ∧ (∃ cs, Blk 3 w g cs) ∧ w.cell? ⟨g, k, none⟩ = some (.int .i64 (gI L k)) ∧ w.frozen? ⟨g, k, none⟩ = false ∧
   ∀ x : Int, OwnI (w.setCell ⟨g, k, none⟩ (.int .i64 x)) base (.slice A n cap) (L.set k x) := by
 obtain ⟨g, R, rfl, hl, hb, hB, h1, h2, h3⟩ := own_blk h (by omega)
 refine ⟨g, rfl, hb, hl, ⟨_, hB⟩, ?_, hB.frozen _, fun x => ?_⟩
 ·rw [hB.cell, List.getElem?_append_left (by rw [icells_length]; omega), icells_get (by omega)]
 ·have h4 := hB.set k (.int .i64 x)
  rw [List.set_append_left _ _ (by rw [icells_length]; omega), icells_set] at h4
  unfold OwnI
  rw [List.length_set, hl]
  refine blk_own h4 hb ?_ h1 h2 ?_
  ·rw [icells_length, List.length_set, hl]; omega
  ·rw [icells_length, List.length_set, ← icells_length]; exact h3
theorem own_blk_ne {w : World} {base : Nat} {t t' : TypeId} {size : Nat} {v : Value} {n : Nat} {xs cs : List Value} {g : Nat} (h : w.ownsRow base t size v n xs) (hB : Blk t' w g cs) (hne : t ≠ t') : v.ownBlock ≠ some g := by
 rcases h.2 with ⟨rfl, _⟩ | ⟨g', cap, cur, rfl, _, hh, _⟩
 ·intro e; simp [Value.ownBlock] at e
 ·intro e
  have : g' = g := by simpa [Value.ownBlock] using e
  subst this
  unfold Blk at hB
  rw [hh] at hB
  injection hB with hB
  injection hB with _ ht
  exact hne ht
theorem own_ge {w : World} {base : Nat} {t : TypeId} {size : Nat} {v : Value} {n : Nat} {xs : List Value} (h : w.ownsRow base t size v n xs) {k : Nat} (hk : v.ownBlock = some k) : base ≤ k := (World.ownsRow.lt h k hk).1
theorem gI_set {a : List Int} {k p : Nat} {s : Int} (hk : k < a.length) : gI (a.set k s) p = if p = k then s else gI a p := by
 by_cases h : p = k
 ·subst h; simp [gI, hk]
 ·rw [if_neg h]; simp [gI, show ¬ k = p from fun e => h e.symm]
theorem list_ext_gI {a b : List Int} (hl : a.length = b.length) (h : ∀ p, p < a.length → gI a p = gI b p) : a = b := by
 apply List.ext_getElem hl
 intro i h1 h2
 rw [← gI_eq h1, ← gI_eq h2]; exact h i h1
end Go.Proofs.YtfegbaokcbjllaaGreat
