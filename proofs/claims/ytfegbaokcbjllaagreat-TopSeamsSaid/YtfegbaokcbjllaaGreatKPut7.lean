/- a piece stored whole into a variable that lies there -/
import Derived.Test.YtfegbaokcbjllaaGreatKWd
namespace Go.Proofs.YtfegbaokcbjllaaGreat
open Go.RowKit
def HasP (w : World) (b : Nat) : Prop := ∃ a0 a1 a2 a3 a4 a5 a6, Blk 40 w b [a0, a1, a2, a3, a4, a5, a6]
def putP (w : World) (b : Nat) (b0 b1 b2 b3 b4 b5 b6 : Value) : World := ((((((w.setCell ⟨b, 0, none⟩ b0).setCell ⟨b, 1, none⟩ b1).setCell ⟨b, 2, none⟩ b2).setCell ⟨b, 3, none⟩ b3).setCell ⟨b, 4, none⟩ b4).setCell ⟨b, 5, none⟩ b5).setCell ⟨b, 6, none⟩ b6
theorem Blk.put7 {w : World} {g : Nat} (h : HasP w g) (b0 b1 b2 b3 b4 b5 b6 : Value) : Blk 40 (putP w g b0 b1 b2 b3 b4 b5 b6) g [b0, b1, b2, b3, b4, b5, b6] := by
 obtain ⟨a0, a1, a2, a3, a4, a5, a6, h⟩ := h
 have := ((((((h.set 0 b0).set 1 b1).set 2 b2).set 3 b3).set 4 b4).set 5 b5).set 6 b6
 simp at this; exact this
theorem ext_put7 {W0 w : World} {b : Nat} (h : Ext W0 w) (hb : W0.heap.size ≤ b) (b0 b1 b2 b3 b4 b5 b6 : Value) : Ext W0 (putP w b b0 b1 b2 b3 b4 b5 b6) :=
 ((((((h.setCell hb _).setCell hb _).setCell hb _).setCell hb _).setCell hb _).setCell hb _).setCell hb _
theorem kept_put7 {w : World} {b : Nat} (b0 b1 b2 b3 b4 b5 b6 : Value) : Kept (fun k => k = b) w (putP w b b0 b1 b2 b3 b4 b5 b6) :=
 kset (kset (kset (kset (kset (kset (kset (Kept.refl _ _) _ _) _ _) _ _) _ _) _ _) _ _) _ _
end Go.Proofs.YtfegbaokcbjllaaGreat
