/- a row of edges of the call's own -/
import Derived.Test.YtfegbaokcbjllaaGreatKVert
namespace Go.Proofs.YtfegbaokcbjllaaGreat
open Go.RowKit
abbrev EPart := ByteArray × Value
def ecells (l : List EPart) : List Value := l.flatMap fun s => [.string s.1, s.2]
theorem ecells_append (a b : List EPart) : ecells (a ++ b) = ecells a ++ ecells b := by simp [ecells]
theorem ecells_even (l : List EPart) (k : Nat) : (ecells l)[k * 2]? = (l[k]?).map fun s => .string s.1 := by
 induction l generalizing k with
 |nil => simp [ecells]
 |cons s l ih =>
  cases k with
  |zero => simp [ecells]
  |succ k => rw [show (k + 1) * 2 = k * 2 + 2 from by omega]; simpa [ecells] using ih k
theorem ecells_odd (l : List EPart) (k : Nat) : (ecells l)[k * 2 + 1]? = (l[k]?).map fun s => s.2 := by
 induction l generalizing k with
 |nil => simp [ecells]
 |cons s l ih =>
  cases k with
  |zero => simp [ecells]
  |succ k => rw [show (k + 1) * 2 + 1 = k * 2 + 1 + 2 from by omega]; simpa [ecells] using ih k
/- a name and a slice of the call's own that stand for an edge -/
def EOk (w : World) (base : Nat) (p : EPart) (e : Edge) : Prop := p.1 = e.1 ∧ OwnS w base p.2 e.2
theorem EOk.ext {w w' : World} {base : Nat} {p : EPart} {e : Edge} (h : EOk w base p e) (he : Ext w w') : EOk w' base p e := ⟨h.1, h.2.ext he⟩
def gP (l : List EPart) (k : Nat) : EPart := l.getD k (⟨#[]⟩, undef)
theorem gP_eq {l : List EPart} {k : Nat} (h : k < l.length) : gP l k = l[k] := by simp [gP, h]
def PartsOk (w : World) (base : Nat) (ps : List EPart) (es : List Edge) : Prop := ps.length = es.length ∧ ∀ k, k < es.length → EOk w base (gP ps k) (gE es k)
def OwnE (w : World) (base : Nat) (v : Value) (es : List Edge) : Prop := ∃ ps, PartsOk w base ps es ∧ w.ownsRow base 59 2 v es.length (ecells ps)
theorem OwnE.nil (w : World) (base : Nat) : OwnE w base (.slice none 0 0) [] := ⟨[], ⟨rfl, fun _ hk => absurd hk (Nat.not_lt_zero _)⟩, World.ownsRow_nil w base _ _⟩
theorem own_ext {w w' : World} {base : Nat} {e : TypeId} {size : Nat} {v : Value} {n : Nat} {xs : List Value} (h : w.ownsRow base e size v n xs) (he : Ext w w') : w'.ownsRow base e size v n xs := by
 refine ⟨h.1, ?_⟩
 rcases h.2 with h0 | ⟨g, cap, cur, hv, hb, hh, r⟩
 ·exact .inl h0
 ·refine .inr ⟨g, cap, cur, hv, hb, ?_, r⟩
  have hl : g < w.heap.size := by
   rcases Nat.lt_or_ge g w.heap.size with hl | hl
   ·exact hl
   ·rw [Array.getElem?_eq_none hl] at hh; cases hh
  rw [Below.block he g hl]; exact hh
theorem OwnE.ext {w w' : World} {base : Nat} {v : Value} {es : List Edge} (h : OwnE w base v es) (he : Ext w w') : OwnE w' base v es := by
 obtain ⟨ps, ⟨h0, h1⟩, h2⟩ := h
 exact ⟨ps, ⟨h0, fun k hk => (h1 k hk).ext he⟩, own_ext h2 he⟩
theorem parts_at {w : World} {b off base : Nat} {ps : List EPart} {es : List Edge} (h : PartsOk w base ps es) (hc : ∀ j u, (ecells ps)[j]? = some u → w.cell? ⟨b, off + j, none⟩ = some u) : EdgesAt w (some ⟨b, off, none⟩) es := by
 intro k hk
 obtain ⟨h0, hs⟩ := h.2 k hk
 obtain ⟨A, c, h1, h2, h3⟩ := hs.slice
 have hkp : k < ps.length := by rw [h.1]; exact hk
 rw [gP_eq hkp, gE_eq hk] at h0
 rw [gP_eq hkp, gE_eq hk] at h1
 rw [gE_eq hk] at h2 h3
 refine ⟨b, off, A, c, rfl, ?_, ?_, h2, h3⟩
 ·have := hc (k * 2) (.string ps[k].1) (by rw [ecells_even, List.getElem?_eq_getElem hkp]; rfl)
  rw [this, h0]
 ·have := hc (k * 2 + 1) ps[k].2 (by rw [ecells_odd, List.getElem?_eq_getElem hkp]; rfl)
  rw [← Nat.add_assoc] at this
  rw [this, h1]
theorem OwnE.slice {w : World} {base : Nat} {v : Value} {es : List Edge} (h : OwnE w base v es) :
  ∃ A cap, v = .slice A es.length cap ∧ EdgesAt w A es ∧ es.length ≤ cap ∧ cap ≤ 9223372036854775807 := by
 obtain ⟨ps, hp, ho⟩ := h
 rcases ho.2 with ⟨rfl, h0⟩ | ⟨g, cap, cur, rfl, hb, hh, hn, hm, hs, ht⟩
 ·rw [List.eq_nil_of_length_eq_zero h0]
  exact ⟨none, 0, rfl, EdgesAt.nil, Nat.le_refl _, by omega⟩
 ·refine ⟨_, cap, rfl, parts_at hp fun j u hu => ?_, hn, hm⟩
  have := World.ownsRow.cells ho (g := g) rfl j u hu
  rwa [addr_add] at this
theorem edge_info : (Tryz.prog.info? 59).map (fun i => (i.zero, i.size, i.bytes)) = some (some (.agg #[.string ⟨#[]⟩, .slice none 0 0]), 2, 40) := by kernel_rfl
theorem gE_snoc (es : List Edge) (e : Edge) : gE (es ++ [e]) es.length = e := by simp [gE]
theorem gE_left {es : List Edge} {e : Edge} {k : Nat} (h : k < es.length) : gE (es ++ [e]) k = gE es k := by simp [gE, List.getElem?_append_left h]
theorem gP_snoc {ps : List EPart} {p : EPart} {k : Nat} (h : k = ps.length) : gP (ps ++ [p]) k = p := by subst h; simp [gP]
theorem gP_left {ps : List EPart} {p : EPart} {k : Nat} (h : k < ps.length) : gP (ps ++ [p]) k = gP ps k := by simp [gP, List.getElem?_append_left h]
theorem PartsOk.snoc {w : World} {base : Nat} {ps : List EPart} {es : List Edge} {p : EPart} {e : Edge} (h : PartsOk w base ps es) (hp : EOk w base p e) : PartsOk w base (ps ++ [p]) (es ++ [e]) := by
 refine ⟨by simp [h.1], fun k hk => ?_⟩
 rcases Nat.lt_or_ge k es.length with hl | hl
 ·rw [gP_left (by rw [h.1]; exact hl), gE_left hl]; exact h.2 k hl
 ·obtain rfl : k = es.length := by simp at hk; omega
  rw [gP_snoc h.1.symm, gE_snoc]; exact hp
/- rows of two element types never share a block -/
theorem own_ne {w : World} {b1 b2 : Nat} {e1 e2 : TypeId} {s1 s2 n1 n2 : Nat} {v1 v2 : Value} {x1 x2 : List Value} (h1 : w.ownsRow b1 e1 s1 v1 n1 x1) (h2 : w.ownsRow b2 e2 s2 v2 n2 x2) (hne : e1 ≠ e2) : v1.ownBlock = none ∨ v1.ownBlock ≠ v2.ownBlock := by
 rcases h1.2 with ⟨rfl, _⟩ | ⟨g, cap, cur, rfl, _, hh, _⟩
 ·exact .inl rfl
 ·refine .inr fun e => ?_
  rcases h2.2 with ⟨rfl, _⟩ | ⟨g2, cap2, cur2, rfl, _, hh2, _⟩
  ·simp [Value.ownBlock] at e
  ·have : g = g2 := by simpa [Value.ownBlock] using e
   subst this
   rw [hh] at hh2
   injection hh2 with hh2
   injection hh2 with _ ht
   exact hne ht
theorem OwnS.grown {w w' : World} {base b2 : Nat} {v v2 : Value} {l : List Spot} {e2 : TypeId} {s2 n2 : Nat} {x2 : List Value} (h : OwnS w base v l) (h2 : w.ownsRow b2 e2 s2 v2 n2 x2) (hne : 49 ≠ e2) (hg : w.grownBy w' v2.ownBlock) : OwnS w' base v l :=
 World.ownsRow.kept h hg (own_ne h h2 hne)
theorem PartsOk.ext {w w' : World} {base : Nat} {ps : List EPart} {es : List Edge} (h : PartsOk w base ps es) (he : Ext w w') : PartsOk w' base ps es := ⟨h.1, fun k hk => (h.2 k hk).ext he⟩
theorem PartsOk.grown {w w' : World} {base b2 : Nat} {v2 : Value} {ps : List EPart} {es : List Edge} {e2 : TypeId} {s2 n2 : Nat} {x2 : List Value} (h : PartsOk w base ps es) (h2 : w.ownsRow b2 e2 s2 v2 n2 x2) (hne : 49 ≠ e2) (hg : w.grownBy w' v2.ownBlock) : PartsOk w' base ps es :=
 ⟨h.1, fun k hk => ⟨(h.2 k hk).1, (h.2 k hk).2.grown h2 hne hg⟩⟩
theorem OwnS.base_le {w : World} {base base' : Nat} {v : Value} {l : List Spot} (h : OwnS w base v l) (hb : base' ≤ base) : OwnS w base' v l := by
 refine ⟨h.1, ?_⟩
 rcases h.2 with h0 | ⟨g, cap, cur, hv, hb', r⟩
 ·exact .inl h0
 ·exact .inr ⟨g, cap, cur, hv, Nat.le_trans hb hb', r⟩
theorem own_base_le {w : World} {base base' : Nat} {e : TypeId} {size : Nat} {v : Value} {n : Nat} {xs : List Value} (h : w.ownsRow base e size v n xs) (hb : base' ≤ base) : w.ownsRow base' e size v n xs := by
 refine ⟨h.1, ?_⟩
 rcases h.2 with h0 | ⟨g, cap, cur, hv, hb', r⟩
 ·exact .inl h0
 ·exact .inr ⟨g, cap, cur, hv, Nat.le_trans hb hb', r⟩
theorem OwnE.base_le {w : World} {base base' : Nat} {v : Value} {es : List Edge} (h : OwnE w base v es) (hb : base' ≤ base) : OwnE w base' v es := by
 obtain ⟨ps, ⟨h0, h1⟩, h2⟩ := h
 exact ⟨ps, ⟨h0, fun k hk => ⟨(h1 k hk).1, (h1 k hk).2.base_le hb⟩⟩, own_base_le h2 hb⟩
end Go.Proofs.YtfegbaokcbjllaaGreat
