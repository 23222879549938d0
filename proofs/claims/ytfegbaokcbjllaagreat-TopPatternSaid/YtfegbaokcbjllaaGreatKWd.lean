/- Words for memory: blocks, rows of the call's own, a piece that is an argument. No conditions. -/
import Derived.Deep.AppendLies
import Derived.Test.YtfegbaokcbjllaaGreatKInPl
namespace Go.Proofs.YtfegbaokcbjllaaGreat
open Go.RowKit
theorem SpotsAt.nilA {w : World} {l : List Spot} (h : SpotsAt w none l) : l = [] := by
 cases l with
 |nil => rfl
 |cons s l => obtain ⟨b, off, e, _⟩ := h 0 (by simp); cases e
theorem IntsAt.nilA {w : World} {l : List Int} (h : IntsAt w none l) : l = [] := by
 cases l with
 |nil => rfl
 |cons s l => obtain ⟨b, off, e, _⟩ := h 0 (by simp); cases e
theorem IntsAt.cells {w : World} {b off : Nat} {l : List Int} (h : IntsAt w (some ⟨b, off, none⟩) l) : ∀ j u, (icells l)[j]? = some u → w.cell? ((⟨b, off, none⟩ : Addr).add j) = some u := by
 intro j u hu
 rw [addr_add]
 have hj : j < l.length := by have := (List.getElem?_eq_some_iff.1 hu).1; simpa [icells] using this
 obtain ⟨b', off', e, h0⟩ := h j hj
 injection e with e; injection e with e1 e2
 subst e1; subst e2
 simp [icells, hj] at hu
 rw [← hu]; exact h0
def plainA (A : Option Addr) : Prop := ∀ a, A = some a → ∃ b off, a = ⟨b, off, none⟩
theorem OwnT.spots {t : TypeId} {w : World} {base : Nat} {A : Option Addr} {n cap : Nat} {L : List Spot} (h : OwnT t w base (.slice A n cap) L) (hn : 0 < n) : ∃ g, A = some ⟨g, 0, none⟩ ∧ base ≤ g ∧ g < w.heap.size ∧ L.length = n ∧ SpotsAt w (some ⟨g, 0, none⟩) L := by
 obtain ⟨g, R, rfl, hl, hb, hB, h1, h2, h3⟩ := own_blk h hn
 refine ⟨g, rfl, hb, hB.lt, hl, SpotsAt.of_g fun k hk => ?_⟩
 obtain ⟨c0, c1, _, _⟩ := pair_cells hB hk
 exact ⟨g, 0, rfl, by rw [Nat.zero_add]; exact c0, by rw [Nat.zero_add]; exact c1⟩
theorem OwnT.len {t : TypeId} {w : World} {base : Nat} {A : Option Addr} {n cap : Nat} {L : List Spot} (h : OwnT t w base (.slice A n cap) L) : L.length = n := by
 rcases h.2 with ⟨e, h0⟩ | ⟨g, cap', cur, e, _⟩
 ·injection e with e1 e2 e3; omega
 ·injection e with e1 e2 e3; exact e2.symm
theorem OwnT.plain {t : TypeId} {w : World} {base : Nat} {A : Option Addr} {n cap : Nat} {L : List Spot} (h : OwnT t w base (.slice A n cap) L) : plainA A ∧ SpotsAt w A L := by
 have hl := h.len
 rcases Nat.eq_zero_or_pos n with h0 | h0
 ·subst h0
  obtain rfl := List.eq_nil_of_length_eq_zero hl
  refine ⟨?_, SpotsAt.nil⟩
  rcases h.2 with ⟨e, _⟩ | ⟨g, cap', cur, e, _⟩
  ·injection e with e1; subst e1; intro a ha; cases ha
  ·injection e with e1; subst e1; intro a ha; injection ha with ha; exact ⟨g, 0, ha.symm⟩
 ·obtain ⟨g, rfl, _, _, _, hs⟩ := h.spots h0
  exact ⟨fun a ha => by injection ha with ha; exact ⟨g, 0, ha.symm⟩, hs⟩
theorem Blk.new' {t : TypeId} {w : World} {cs : List Value} {g : Nat} (hg : g = w.heap.size) : Blk t (w.alloc (.cells cs.toArray t)) g cs := by rw [hg]; exact Blk.new _ _ _
theorem OwnE.kept {K : Nat → Prop} {w w' : World} {base : Nat} {v : Value} {es : List Edge} (h : OwnE w base v es) (hk : Kept K w w') (hK : ∀ k, k < w.heap.size → K k → ∃ t cs, Blk t w k cs ∧ t ≠ 49 ∧ t ≠ 59) : OwnE w' base v es := by
 obtain ⟨ps, ⟨h0, h1⟩, h2⟩ := h
 refine ⟨ps, ⟨h0, fun k hk' => ⟨(h1 k hk').1, own_kept (h1 k hk').2 hk fun b hb hKb => ?_⟩⟩, own_kept h2 hk fun b hb hKb => ?_⟩
 ·obtain ⟨t, cs, hB, hn, _⟩ := hK b (World.ownsRow.lt (h1 k hk').2 b hb).2 hKb
  exact own_blk_ne (h1 k hk').2 hB (Ne.symm hn) hb
 ·obtain ⟨t, cs, hB, _, hn⟩ := hK b (World.ownsRow.lt h2 b hb).2 hKb
  exact own_blk_ne h2 hB (Ne.symm hn) hb
theorem own_of_blk {t : TypeId} {w : World} {g base : Nat} {L : List Spot} (h : Blk t w g (scells L)) (hb : base ≤ g) (hl : L.length ≤ 9223372036854775807) : OwnT t w base (.slice (some ⟨g, 0, none⟩) L.length L.length) L :=
 blk_own (R := []) (by simpa using h) hb (scells_length L) (Nat.le_refl _) hl (by simp [scells_length])
theorem kset {b : Nat} {a w : World} (h : Kept (fun k => k = b) a w) (j : Nat) (u : Value) : Kept (fun k => k = b) a (w.setCell ⟨b, j, none⟩ u) := h.set (.inr rfl) u
theorem own_of_int {w : World} {g base : Nat} {L : List Int} (h : Blk 3 w g (icells L)) (hb : base ≤ g) (hl : L.length ≤ 9223372036854775807) : OwnI w base (.slice (some ⟨g, 0, none⟩) L.length L.length) L :=
 blk_own (R := []) (by simpa using h) hb (by simp [icells]) (Nat.le_refl _) hl (by simp [icells])
theorem OwnT.form2 {t : TypeId} {w : World} {base : Nat} {v : Value} {l : List Spot} (h : OwnT t w base v l) : ∃ A c, v = .slice A l.length c := by
 rcases h.2 with ⟨e, h0⟩ | ⟨g, cap', cur, e, _⟩
 ·exact ⟨none, 0, by rw [h0]; exact e⟩
 ·exact ⟨_, _, e⟩
theorem OwnI.plain {w : World} {base : Nat} {A : Option Addr} {n cap : Nat} {L : List Int} (h : OwnI w base (.slice A n cap) L) : plainA A ∧ IntsAt w A L ∧ L.length = n := by
 obtain ⟨A', c', e, hi, _, _⟩ := OwnI.slice h
 injection e with e1 e2 e3
 subst e1
 refine ⟨?_, hi, e2.symm⟩
 rcases h.2 with ⟨e, _⟩ | ⟨g, cap', cur, e, _⟩
 ·injection e with e1; subst e1; intro a ha; cases ha
 ·injection e with e1; subst e1; intro a ha; injection ha with ha; exact ⟨g, 0, ha.symm⟩
theorem OwnE.slice' {w : World} {base : Nat} {v : Value} {es : List Edge} {n : Nat} (h : OwnE w base v es) (hn : es.length = n) :
  ∃ A cap, v = .slice A n cap ∧ EdgesAt w A es ∧ n ≤ cap ∧ cap ≤ 9223372036854775807 := by subst hn; exact h.slice
theorem OwnT.slice' {t : TypeId} {w : World} {base : Nat} {v : Value} {l : List Spot} {n : Nat} (h : OwnT t w base v l) (hn : l.length = n) :
  ∃ A cap, v = .slice A n cap ∧ SpotsAt w A l ∧ plainA A := by
 subst hn
 obtain ⟨A, c, rfl⟩ := h.form2
 exact ⟨A, c, rfl, h.plain.2, h.plain.1⟩
theorem OwnI.slice' {w : World} {base : Nat} {v : Value} {l : List Int} {n : Nat} (h : OwnI w base v l) (hn : l.length = n) :
  ∃ A cap, v = .slice A n cap ∧ IntsAt w A l ∧ plainA A := by
 subst hn
 obtain ⟨A, c, rfl, hi, _, _⟩ := OwnI.slice h
 exact ⟨A, c, rfl, hi, (OwnI.plain h).1⟩
theorem blk7 {t : TypeId} {w : World} {g : Nat} {v0 v1 v2 v3 v4 v5 v6 : Value} (h : Blk t w g [v0, v1, v2, v3, v4, v5, v6]) : w.cell? ⟨g, 0, none⟩ = some v0 ∧ w.cell? ⟨g, 1, none⟩ = some v1 ∧ w.cell? ⟨g, 2, none⟩ = some v2 ∧ w.cell? ⟨g, 3, none⟩ = some v3 ∧ w.cell? ⟨g, 4, none⟩ = some v4 ∧ w.cell? ⟨g, 5, none⟩ = some v5 ∧ w.cell? ⟨g, 6, none⟩ = some v6 :=
 ⟨h.cell 0, h.cell 1, h.cell 2, h.cell 3, h.cell 4, h.cell 5, h.cell 6⟩
theorem blk2 {t : TypeId} {w : World} {g : Nat} {v0 v1 : Value} (h : Blk t w g [v0, v1]) : w.cell? ⟨g, 0, none⟩ = some v0 ∧ w.cell? ⟨g, 1, none⟩ = some v1 := ⟨h.cell 0, h.cell 1⟩
end Go.Proofs.YtfegbaokcbjllaaGreat
