/- rows that the call itself makes: spots, numbers, edges -/
import Derived.Test.YtfegbaokcbjllaaGreatKBase
namespace Go.Proofs.YtfegbaokcbjllaaGreat
open Go.RowKit
def scells (l : List Spot) : List Value := l.flatMap fun s => [.int .i64 s.1, .int .i64 s.2]
theorem scells_append (a b : List Spot) : scells (a ++ b) = scells a ++ scells b := by simp [scells]
theorem scells_length (l : List Spot) : (scells l).length = l.length * 2 := by
 induction l with
 |nil => rfl
 |cons s l ih => simp [scells] at ih ⊢; omega
theorem scells_even (l : List Spot) (k : Nat) : (scells l)[k * 2]? = (l[k]?).map fun s => .int .i64 s.1 := by
 induction l generalizing k with
 |nil => simp [scells]
 |cons s l ih =>
  cases k with
  |zero => simp [scells]
  |succ k => rw [show (k + 1) * 2 = k * 2 + 2 from by omega]; simpa [scells] using ih k
theorem scells_odd (l : List Spot) (k : Nat) : (scells l)[k * 2 + 1]? = (l[k]?).map fun s => .int .i64 s.2 := by
 induction l generalizing k with
 |nil => simp [scells]
 |cons s l ih =>
  cases k with
  |zero => simp [scells]
  |succ k => rw [show (k + 1) * 2 + 1 = k * 2 + 1 + 2 from by omega]; simpa [scells] using ih k
theorem scells_one' (l : List Spot) : ∀ u ∈ scells l, u.oneCell' = true := by
 intro u hu
 simp only [scells, List.mem_flatMap] at hu
 obtain ⟨s, _, hs⟩ := hu
 simp at hs
 rcases hs with rfl | rfl <;> rfl
theorem addr_add (b off j : Nat) : (⟨b, off, none⟩ : Addr).add j = ⟨b, off + j, none⟩ := by unfold Addr.add; split <;> simp_all
theorem SpotsAt.cells {w : World} {b off : Nat} {l : List Spot} (h : SpotsAt w (some ⟨b, off, none⟩) l) : ∀ j u, (scells l)[j]? = some u → w.cell? ((⟨b, off, none⟩ : Addr).add j) = some u := by
 intro j u hu
 rw [addr_add]
 have hj : j < (scells l).length := (List.getElem?_eq_some_iff.1 hu).1
 rw [scells_length] at hj
 obtain ⟨k, rfl | rfl⟩ : ∃ k, j = k * 2 ∨ j = k * 2 + 1 := ⟨j / 2, by omega⟩
 ·have hk : k < l.length := by omega
  obtain ⟨h0, h1⟩ := h.at1 hk
  rw [scells_even, List.getElem?_eq_getElem hk] at hu
  simp at hu; subst hu
  rw [gS_eq hk] at h0
  exact h0
 ·have hk : k < l.length := by omega
  obtain ⟨h0, h1⟩ := h.at1 hk
  rw [scells_odd, List.getElem?_eq_getElem hk] at hu
  simp at hu; subst hu
  rw [gS_eq hk] at h1
  rw [← Nat.add_assoc]; exact h1
theorem SpotsAt.of_cells {w : World} {b off : Nat} {l : List Spot} (h : ∀ j u, (scells l)[j]? = some u → w.cell? ⟨b, off + j, none⟩ = some u) : SpotsAt w (some ⟨b, off, none⟩) l := fun k hk => by
 refine ⟨b, off, rfl, ?_, ?_⟩
 ·exact h _ _ (by rw [scells_even, List.getElem?_eq_getElem hk]; rfl)
 ·rw [Nat.add_assoc]; exact h _ _ (by rw [scells_odd, List.getElem?_eq_getElem hk]; rfl)
/- what the call owns: a slice of spots -/
def OwnS (w : World) (base : Nat) (v : Value) (l : List Spot) : Prop := w.ownsRow base 49 2 v l.length (scells l)
theorem OwnS.nil (w : World) (base : Nat) : OwnS w base (.slice none 0 0) [] := World.ownsRow_nil w base _ _
theorem OwnS.form {w : World} {base : Nat} {v : Value} {l : List Spot} (h : OwnS w base v l) :
  (v = .slice none 0 0 ∧ l = []) ∨ ∃ g cap, v = .slice (some ⟨g, 0, none⟩) l.length cap ∧ base ≤ g ∧ g < w.heap.size ∧ l.length ≤ cap ∧ cap ≤ 9223372036854775807 ∧ SpotsAt w (some ⟨g, 0, none⟩) l := by
 rcases h.2 with ⟨rfl, h0⟩ | ⟨g, cap, cur, rfl, hb, hh, hn, hm, hs, ht⟩
 ·exact .inl ⟨rfl, List.eq_nil_of_length_eq_zero h0⟩
 ·refine .inr ⟨g, cap, rfl, hb, ?_, hn, hm, ?_⟩
  ·rcases Nat.lt_or_ge g w.heap.size with hl | hl
   ·exact hl
   ·rw [Array.getElem?_eq_none hl] at hh; cases hh
  ·refine SpotsAt.of_cells fun j u hu => ?_
   have := World.ownsRow.cells h (g := g) rfl j u hu
   rwa [addr_add] at this
/- .. as a slice value, whatever it is -/
theorem OwnS.slice {w : World} {base : Nat} {v : Value} {l : List Spot} (h : OwnS w base v l) :
  ∃ A cap, v = .slice A l.length cap ∧ SpotsAt w A l ∧ l.length ≤ cap ∧ cap ≤ 9223372036854775807 := by
 rcases h.form with ⟨rfl, rfl⟩ | ⟨g, cap, rfl, _, _, h1, h2, h3⟩
 ·exact ⟨none, 0, rfl, SpotsAt.nil, Nat.le_refl _, by omega⟩
 ·exact ⟨_, _, rfl, h3, h1, h2⟩
theorem OwnS.ext {w w' : World} {base : Nat} {v : Value} {l : List Spot} (h : OwnS w base v l) (he : Ext w w') : OwnS w' base v l := by
 refine ⟨h.1, ?_⟩
 rcases h.2 with h0 | ⟨g, cap, cur, hv, hb, hh, r⟩
 ·exact .inl h0
 ·refine .inr ⟨g, cap, cur, hv, hb, ?_, r⟩
  have hl : g < w.heap.size := by
   rcases Nat.lt_or_ge g w.heap.size with hl | hl
   ·exact hl
   ·rw [Array.getElem?_eq_none hl] at hh; cases hh
  rw [Below.block he g hl]; exact hh
def RetS (w : World) (l : List Spot) (e : Ending) (w' : World) : Prop := ∃ v, e = .returned v ∧ OwnS w' w.heap.size v l ∧ Ext w w'
theorem spot_info : (Tryz.prog.info? 49).map (fun i => (i.zero, i.size, i.bytes)) = some (some (.agg #[.int .i64 0, .int .i64 0]), 2, 16) := by kernel_rfl
def BlkS (w : World) (g : Nat) (L : List Spot) : Prop := w.heap[g]? = some (.cells (scells L).toArray 49 (0, 0))
theorem BlkS.lt {w : World} {g : Nat} {L : List Spot} (h : BlkS w g L) : g < w.heap.size := by
 rcases Nat.lt_or_ge g w.heap.size with hl | hl
 ·exact hl
 ·unfold BlkS at h; rw [Array.getElem?_eq_none hl] at h; cases h
theorem BlkS.ext {w w' : World} {g : Nat} {L : List Spot} (h : BlkS w g L) (he : Ext w w') : BlkS w' g L := (Below.block he g h.lt).trans h
theorem BlkS.cell {w : World} {g : Nat} {L : List Spot} (h : BlkS w g L) (j : Nat) : w.cell? ⟨g, j, none⟩ = (scells L)[j]? := by
 unfold BlkS at h
 simp [World.cell?, h]
theorem BlkS.frozen {w : World} {g : Nat} {L : List Spot} (h : BlkS w g L) (j : Nat) : w.frozen? ⟨g, j, none⟩ = false := by
 unfold BlkS at h
 simp [World.frozen?, h]
theorem BlkS.at {w : World} {g : Nat} {L : List Spot} (h : BlkS w g L) {k : Nat} (hk : k < L.length) :
  w.cell? ⟨g, k * 2, none⟩ = some (.int .i64 (gS L k).1) ∧ w.cell? ⟨g, k * 2 + 1, none⟩ = some (.int .i64 (gS L k).2) := by
 rw [h.cell, h.cell, scells_even, scells_odd, List.getElem?_eq_getElem hk, gS_eq hk]
 exact ⟨rfl, rfl⟩
theorem scells_set (L : List Spot) (k : Nat) (s : Spot) : ((scells L).set (k * 2) (.int .i64 s.1)).set (k * 2 + 1) (.int .i64 s.2) = scells (L.set k s) := by
 induction L generalizing k with
 |nil => simp [scells]
 |cons t L ih =>
  cases k with
  |zero => simp [scells]
  |succ k => rw [show (k + 1) * 2 = k * 2 + 2 from by omega]; simpa [scells] using ih k
theorem BlkS.set {w : World} {g : Nat} {L : List Spot} (h : BlkS w g L) (k : Nat) (s : Spot) : BlkS ((w.setCell ⟨g, k * 2, none⟩ (.int .i64 s.1)).setCell ⟨g, k * 2 + 1, none⟩ (.int .i64 s.2)) g (L.set k s) := by
 unfold BlkS at h ⊢
 rw [← scells_set]
 simp [World.setCell, Array.getElem?_modify, h]
theorem BlkS.own {w : World} {g base : Nat} {L : List Spot} (h : BlkS w g L) (hb : base ≤ g) (hl : L.length ≤ 9223372036854775807) : OwnS w base (.slice (some ⟨g, 0, none⟩) L.length L.length) L :=
 ⟨scells_length L, .inr ⟨g, L.length, (scells L).toArray, rfl, hb, h, Nat.le_refl _, hl, by simp [scells_length], by rw [← scells_length]; simp⟩⟩
theorem BlkS.other {w : World} {g : Nat} {L : List Spot} (h : BlkS w g L) {p : Addr} (hp : g ≠ p.block) (u : Value) : BlkS (w.setCell p u) g L := (Below.heap_setCell w p u g hp).trans h
theorem BlkS.new (w : World) (L : List Spot) : BlkS (w.alloc (.cells (scells L).toArray 49)) w.heap.size L := by
 unfold BlkS; show (w.heap.push _)[w.heap.size]? = _; simp
end Go.Proofs.YtfegbaokcbjllaaGreat
